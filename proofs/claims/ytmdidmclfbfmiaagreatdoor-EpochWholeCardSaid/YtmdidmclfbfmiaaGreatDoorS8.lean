/-
  Texts of this proof, one behind the other: DigOps, DigReset, OpenSide, Made13, WireRead, WireDec, Alive16, RankRisesW, Tells, Blend, JoinN, SensorRight, SensorMake, CloneD, CloneP, Clone, SensorOps, Wire.
-/
import Derived.Deep.RegionWith
import Derived.Deep.DeepCutAuto
import Derived.Laws.CopyOwn
import Derived.Test.YtmdidmclfbfmiaaGreatDoorS1
import Derived.Test.YtmdidmclfbfmiaaGreatDoorS2
import Derived.Test.YtmdidmclfbfmiaaGreatDoorS3
import Derived.Test.YtmdidmclfbfmiaaGreatDoorS4
import Derived.Test.YtmdidmclfbfmiaaGreatDoorS5
import Derived.Test.YtmdidmclfbfmiaaGreatDoorS6
import Derived.Test.YtmdidmclfbfmiaaGreatDoorS7
set_option linter.unusedVariables false
set_option linter.unusedSimpArgs false
set_option maxRecDepth 100000
set_option maxHeartbeats 16000000
namespace Go.Proofs.YtmdidmclfbfmiaaGreatDoor
open Go.ChangeShapes Go.WideShapes Go.ChangeAt Go.RowKit
def DigTo (w:World) (g K l:Nat) (k:Int) (s:List Nd) (F:Nat→Prop) (w':World) :Prop:=∃F',DigAt w' g K l k s F'∧Turn F w w'∧Grow w F F'
theorem DigTo.below {w:World} {g K l:Nat} {k:Int} {s:List Nd} {F:Nat→Prop} {w':World} (h:DigAt w g K l k s F) (hb:Below w.heap.size w w') :DigTo w g K l k s F w':=⟨F,h.below hb,.of_below hb,Grow.refl⟩
theorem PoolAt.not_dig {w:World} {p K l g:Nat} {r:List Nd} {F:Nat→Prop} (h:PoolAt w p K l r F) {cs:Array Value} (hh:w.heap[g]? =some (.cells cs 121 (0,0))) : ¬F g:=fun hf=>by
 obtain⟨t,ht,ha⟩:=h.typed g hf;have:=typeAt_eq ha (.of hh);subst this;rcases ht with h|h|h|h|h <;> revert h <;> decide
theorem DigAt.parts {w:World} {g K l:Nat} {k:Int} {r:List Nd} {F:Nat→Prop} (h:DigAt w g K l k r F) : ∃p F0,F=footP g F0∧w.heap[g]? =some (.cells #[.int .i64 k,.pointer (some ⟨p,0,none⟩)] 121 (0,0))∧PoolAt w p K l r F0∧¬F0 g∧1≤k∧k≤1048576:=by
 obtain⟨h1,h2,p,F0,hF,hh,hP⟩:=h;exact⟨p,F0,hF,hh,hP,hP.not_dig hh,h1,h2⟩
theorem digest_Len (w:World) (g K l:Nat) (k:Int) (r:List Nd) (F:Nat→Prop) (h:DigAt w g K l k r F) :Calls Tryz.prog 166 #[.pointer (some ⟨g,0,none⟩)] w fun e w'=>e=.returned (.int .i64 r.length)∧Below w.heap.size w w':=by
 obtain⟨h1,h2,p,F0,rfl,hh,hP⟩:=h;have c:=bC hh;have z:=lB hh;have HP:=LH hP;clear hh hP
 go_enter Tryz.func166,Tryz.ntmps166
 go_wp2_with fail;refine(pool_Len _ p K l r F0 HP.out).mono ?_;rintro e w1 ⟨rfl,hb1⟩;have B1:Below w.heap.size w w1:=Below.then_ bE hb1;have s1:=B1.size;go_wp2_with fail;go_ret;exact⟨rfl,bE⟩
theorem made_room (w:World) (k:Int) (h1:1≤k) (h2:k≤1048576) :Calls Tryz.prog 167 #[.agg #[.int .i64 k]] w fun e w'=>e=.returned (.int .i64 (8*k))∧Below w.heap.size w w':=by
 go_enter Tryz.func167,Tryz.ntmps167
 go_wp2_with fail;go_ret;exact⟨rfl,bE⟩
def CompPost (g K l:Nat) (k:Int) (r:List Nd) (F:Nat→Prop) (w:World) (e:Ending) (w':World) :Prop:=
 ∃(ps:List Int) (s:List Nd),e=.returned (.int .i64 ps.length)∧RunTo l (sumR r / k) r ps s∧DigTo w g K l k s F w'
theorem digest_Compress (w:World) (g K l:Nat) (k:Int) (r:List Nd) (F:Nat→Prop) (h:DigAt w g K l k r F) (hn:r.length≤67108864) :
 Calls Tryz.prog 168 #[.pointer (some ⟨g,0,none⟩)] w (CompPost g K l k r F w):=by
 obtain⟨h1,h2,p,F0,rfl,hh,hP⟩:=h;have hgF:=hP.not_dig hh;have c:=bC hh;have z:=lB hh;have HR:=LH (fun W h=>press_Run W p K l r F0 h hn k h1 h2);have HP:=LH hP;have HH:=LH hh;unfold CompPost;generalize sumR r / k=most at HR⊢;clear hh hP
 go_enter Tryz.func168,Tryz.ntmps168
 go_upto_region 3 with fail
 go_region_with (first
  | (go_at_call 213;refine(HR.out w.drew (HP.out.keep fun _ _=>rfl)).mono ?_;rintro e w1 ⟨ps,s,rfl,hR,_,F1,hP1,hT,hG⟩;have HE:Hid (RunTo l most r ps s∧DigTo w g K l k s (footP g F0) w1):=LH ⟨hR,footP g F1,⟨h1,h2,p,F1,rfl,hT.keep (w:=w.drew) HH.out hgF,hP1⟩,((Turn.refl _ w).drew.trans hT Grow.refl).mono (fun b _ hb=>.inr hb),hG.foot (w:=w.drew)⟩;clear hR hP1 hT hG))
 all_goals
  clear c z;go_wp2_with fail;go_ret;exact⟨ps,s,rfl,HE.out⟩
theorem digest_Insert (w:World) (g K l:Nat) (k:Int) (r:List Nd) (F:Nat→Prop) (h:DigAt w g K l k r F) (hn:r.length≤67108864) (x c:Int) :
 Calls Tryz.prog 104 #[.pointer (some ⟨g,0,none⟩),.int .i64 x,.int .i64 c] w fun e w'=>∃r',e=.returned (.int .i64 (insErr l r x c))∧InsTo l k r x c r'∧DigTo w g K l k r' F w':=by
 have hD:=LH h;have hll:=h.l_le;have hCo:=LH (fun W h=>digest_Compress W g K l k r F h hn);have hLn:=LH (fun W h=>digest_Len W g K l k r F h);obtain⟨h1,h2,p,F0,hFe,hh,hP⟩:=h;have s0:=sumR_nonneg hP.fits.roll;have s1:=hP.fits.sum;have HL:=LH (fun W h=>pool_L W p K l r F0 h);have HT:=LH (fun W h=>pool_Total W p K l r F0 h);have HLf:=LH (fun W=>twig_Leaf W l x hll.1 hll.2);have HP:=LH hP;have c0:=bC hh;have z0:=lB hh
 cases hv:isVal l x
 ·have e1:insErr l r x c=3:=by unfold insErr;rw [if_pos hv]
  have HE:Hid (InsTo l k r x c r):=LH (.inl ⟨by rw [e1];omega,rfl⟩);rw [e1];rw [leafV_no hv] at HLf;clear hh hP hv e1
  go_enter Tryz.func104,Tryz.ntmps104
  go_wp2_with fail;refine(HL.out _ HP.out).mono ?_;rintro e w1 ⟨rfl,hb1⟩;have B1:Below w.heap.size w w1:=Below.then_ bE hb1;have s1:=B1.size;have z1_0:g<w1.heap.size:=by have:=hb1.size;(try simp at this);omega
  have y1_0:g≤w1.heap.size:=Nat.le_of_lt z1_0;have c1_0:=czB hb1 (g);have f1_0:=fzB hb1 (g);go_wp2_with fail;refine(HLf.out _).mono ?_;rintro e w2 ⟨rfl,hb2⟩;have B2:Below w.heap.size w w2:=Below.then_ bE hb2;have s2:=B2.size;have z2_0:g<w2.heap.size:=by have:=hb2.size;(try simp at this);omega
  have y2_0:g≤w2.heap.size:=Nat.le_of_lt z2_0;have c2_0:=czB hb2 (g);have f2_0:=fzB hb2 (g);go_wp2_with fail;go_ret;exact⟨r,rfl,HE.out,.below hD.out B2⟩
 ·rw [leafV_yes hv] at HLf
  by_cases hc:c<1
  ·have e1:insErr l r x c=4:=by unfold insErr;rw [if_neg (by simp [hv]),if_pos hc]
   have HE:Hid (InsTo l k r x c r):=LH (.inl ⟨by rw [e1];omega,rfl⟩);rw [e1];clear hh hP hv e1
   go_enter Tryz.func104,Tryz.ntmps104
   go_wp2_with fail;refine(HL.out _ HP.out).mono ?_;rintro e w1 ⟨rfl,hb1⟩;have B1:Below w.heap.size w w1:=Below.then_ bE hb1;have s1:=B1.size;have z1_0:g<w1.heap.size:=by have:=hb1.size;(try simp at this);omega
   have y1_0:g≤w1.heap.size:=Nat.le_of_lt z1_0;have c1_0:=czB hb1 (g);have f1_0:=fzB hb1 (g);go_wp2_with fail;refine(HLf.out _).mono ?_;rintro e w2 ⟨rfl,hb2⟩;have B2:Below w.heap.size w w2:=Below.then_ bE hb2;have s2:=B2.size;have z2_0:g<w2.heap.size:=by have:=hb2.size;(try simp at this);omega
   have y2_0:g≤w2.heap.size:=Nat.le_of_lt z2_0;have c2_0:=czB hb2 (g);have f2_0:=fzB hb2 (g);go_wp2_with fail;go_ret;exact⟨r,rfl,HE.out,.below hD.out B2⟩
  ·have hc':decide (c<1) =false:=by simpa using hc
   by_cases hs:72057594037927935<sumR r+c
   ·have e1:insErr l r x c=5:=by unfold insErr;rw [if_neg (by simp [hv]),if_neg hc,if_pos hs]
    have HE:Hid (InsTo l k r x c r):=LH (.inl ⟨by rw [e1];omega,rfl⟩);rw [e1];generalize sumR r=n at hs s0 s1 HT;have hs2:72057594037927935 - n<c:=by omega
    clear hh hP hv e1 hs hc
    go_enter Tryz.func104,Tryz.ntmps104
    go_wp2_with fail;refine(HL.out _ HP.out).mono ?_;rintro e w1 ⟨rfl,hb1⟩;have B1:Below w.heap.size w w1:=Below.then_ bE hb1;have s1:=B1.size;have z1_0:g<w1.heap.size:=by have:=hb1.size;(try simp at this);omega
    have y1_0:g≤w1.heap.size:=Nat.le_of_lt z1_0;have c1_0:=czB hb1 (g);have f1_0:=fzB hb1 (g);go_wp2_with fail;refine(HLf.out _).mono ?_;rintro e w2 ⟨rfl,hb2⟩;have B2:Below w.heap.size w w2:=Below.then_ bE hb2;have s2:=B2.size;have z2_0:g<w2.heap.size:=by have:=hb2.size;(try simp at this);omega
    have y2_0:g≤w2.heap.size:=Nat.le_of_lt z2_0;have c2_0:=czB hb2 (g);have f2_0:=fzB hb2 (g);go_wp2_with fail;have P2:=LH (HP.out.below B2);refine(HT.out _ P2.out).mono ?_;rintro e w3 ⟨rfl,hb3⟩;have B3:Below w.heap.size w w3:=Below.then_ bE hb3;have s3:=B3.size;go_wp2_with fail;go_ret;exact⟨r,rfl,HE.out,.below hD.out B3⟩
   ·have e1:insErr l r x c=0:=by unfold insErr;rw [if_neg (by simp [hv]),if_neg hc,if_neg hs]
    have hE: ∀s,PreTo l k r (2^l+x) s→InsTo l k r x c (addR s (2^l+x) c):=fun s hp=>.inr ⟨e1,s,hp,rfl⟩;have HE:=LH hE;rw [e1];obtain⟨v1,v2,v3⟩:=ins_ok e1;obtain⟨y1,y2⟩:=isVal_iff.1 v1;have hpw:=pow_pos' l;have hp48:=pow_48 hll.2;obtain⟨id,hid⟩ : ∃id:Nat,(2:Int) ^l+x=id:=⟨(2^l+x).toNat,by omega⟩;have hid1:1≤id:=by omega
    have hid2:id<2*2^l:=by
     have: (id:Int) <2*2^l:=by omega
     exact_mod_cast this
    rw [hid] at HLf HE;have HG:=LH (fun W h=>pool_Get W p K l r F0 h id);have HPre:=LH (fun s (h:PreTo l k r id s)=>h.same hP.fits);have HAdd:=LH (fun W q s F' (hs:PreTo l k r id s) h=>pool_Add W q K l s F' h id hid1 hid2 c (by omega) (by rw [(hs.same hP.fits).2.1];omega) (by have:=(hs.same hP.fits).2.2;omega));have HC1:Hid (∀ps s,getR r id=0→8*k≤r.length→RunTo l (sumR r / k) r ps s→PreTo l k r id s):=LH fun ps s a b h=>.inl ⟨a,b,ps,h⟩;have HC2:Hid (¬(getR r id=0∧8*k≤r.length)→PreTo l k r id r):=LH fun h=>.inr ⟨h,rfl⟩;have hs2:decide (72057594037927935 - sumR r<c) =false:=by simp;omega
    have hlr: (r.length:Int)≤67108864:=by omega
    have HFe:=LH hFe;have HH:=LH hh;generalize sumR r=n at hs2 s0 s1 HT;obtain⟨gt,hgt⟩ : ∃gt,gt=getR r id:=⟨_,rfl⟩;rw [←hgt] at HG HC1 HC2;clear hh hP hv e1 hs hc v1 v2 v3 y1 y2 hpw hp48 hid hid1 hid2 hE hgt HPre hFe
    go_enter Tryz.func104,Tryz.ntmps104
    go_wp2_with fail;refine(HL.out _ HP.out).mono ?_;rintro e w1 ⟨rfl,hb1⟩;have B1:Below w.heap.size w w1:=Below.then_ bE hb1;have s1:=B1.size;have z1_0:g<w1.heap.size:=by have:=hb1.size;(try simp at this);omega
    have y1_0:g≤w1.heap.size:=Nat.le_of_lt z1_0;have c1_0:=czB hb1 (g);have f1_0:=fzB hb1 (g);go_wp2_with fail;refine(HLf.out _).mono ?_;rintro e w2 ⟨rfl,hb2⟩;have B2:Below w.heap.size w w2:=Below.then_ bE hb2;have s2:=B2.size;have z2_0:g<w2.heap.size:=by have:=hb2.size;(try simp at this);omega
    have y2_0:g≤w2.heap.size:=Nat.le_of_lt z2_0;have c2_0:=czB hb2 (g);have f2_0:=fzB hb2 (g);go_wp2_with fail;have P2:=LH (HP.out.below B2);refine(HT.out _ P2.out).mono ?_;rintro e w3 ⟨rfl,hb3⟩;have B3:Below w.heap.size w w3:=Below.then_ bE hb3;have s3:=B3.size;have z3_0:g<w3.heap.size:=by have:=hb3.size;(try simp at this);omega
    have y3_0:g≤w3.heap.size:=Nat.le_of_lt z3_0;have c3_0:=czB hb3 (g);have f3_0:=fzB hb3 (g);have P3:=LH (HP.out.below B3);have D3:=LH (hD.out.below B3);have BB3:=LH B3;clear hb1 hb2 hb3 B1 B2 B3 P2;by_cases h0:gt=0
    ·subst h0
     by_cases h8:8*k≤r.length
     ·have HC3:=LH (fun ps s h=>HC1.out ps s rfl h8 h)
      clear HC1 HC2;go_wp2_with fail;refine rX (by kernel_rfl) (by kernel_rfl) ?_
      repeat (go_big_quiet_step (first| (go_at_call 165;exact quiet_ext (HG.out _ (P3.out.below (ext_below _ _)))) | (go_at_call 166;exact quiet_ext (hLn.out _ (D3.out.below (ext_below _ _)))) | (go_at_call 167;exact quiet_ext (made_room _ k h1 h2))))
      refine wpQuiet_nil ?_;intro w4 hb4;replace hb4:=bX hb4;have D4:=LH (D3.out.below hb4);have B4:=LH (BB3.out.trans (hb4.mono BB3.out.size));clear hb4 P3 D3 BB3;go_wp2_with fail;refine(hCo.out w4 D4.out).mono ?_;rintro e w5 ⟨ps,s,rfl,hR,F5,hD5,hT5,hG5⟩;have HPs:=LH (HC3.out ps s hR);replace hT5:Turn F w w5:=(Turn.of_below B4.out).trans hT5 Grow.refl;replace hG5:Grow w F F5:=fun b hb=>(hG5 b hb).imp (fun h=>h) fun h=>Nat.le_trans B4.out.size h;clear hR D4 B4;obtain⟨p5,F05,rfl,hh5,hP5,hgF5,_,_⟩:=hD5.parts;have P5:=LH hP5;have H5:=LH hh5;have T5:=LH hT5;have G5:=LH hG5;have c5:=bC hh5;have z5:=lB hh5;clear hD5 hP5 hh5 hT5 hG5 c0 z0;go_wp2_with fail;refine(HAdd.out w5 p5 s F05 HPs.out P5.out).mono ?_;rintro e w6 ⟨F6,rfl,hP6,hT6,hG6⟩;have HF:Hid (DigTo w g K l k (addR s id c) F w6):=LH ⟨footP g F6,⟨h1,h2,p5,F6,rfl,hT6.keep H5.out hgF5,hP6⟩,T5.out.trans (hT6.mono fun b _ hb=>.inr hb) G5.out,G5.out.trans hG6.foot T5.out.size⟩;clear hP6 hT6 hG6 c5 z5;go_wp2_with fail;go_ret;exact⟨_,rfl,HE.out s HPs.out,HF.out⟩
     ·have HPs0:=LH (HC2.out fun h=>h8 h.2)
      have h8':decide (8*k≤(r.length:Int)) =false:=by simpa using h8
      obtain⟨s,hs⟩ : ∃s,s=r:=⟨_,rfl⟩;have HPs:Hid (PreTo l k r id s):=LH (by rw [hs];exact HPs0.out);clear HPs0;clear HC1 HC2 h8;go_wp2_with fail;refine rX (by kernel_rfl) (by kernel_rfl) ?_
      repeat (go_big_quiet_step (first| (go_at_call 165;exact quiet_ext (HG.out _ (P3.out.below (ext_below _ _)))) | (go_at_call 166;exact quiet_ext (hLn.out _ (D3.out.below (ext_below _ _)))) | (go_at_call 167;exact quiet_ext (made_room _ k h1 h2))))
      refine wpQuiet_nil ?_;intro w5 hb4;replace hb4:=bX hb4;have hT5:Turn F w w5:=Turn.of_below (BB3.out.trans (hb4.mono BB3.out.size));obtain⟨F5,hF5⟩ : ∃F5,F5=F:=⟨_,rfl⟩;have hG5:Grow w F F5:=by rw [hF5];exact Grow.refl
      have hD5:=D3.out.below hb4;rw [←hF5] at hD5;clear hF5;clear hb4 P3 D3 BB3;rw [←hs] at hD5;obtain⟨p5,F05,rfl,hh5,hP5,hgF5,_,_⟩:=hD5.parts;have P5:=LH hP5;have H5:=LH hh5;have T5:=LH hT5;have G5:=LH hG5;have c5:=bC hh5;have z5:=lB hh5;clear hD5 hP5 hh5 hT5 hG5 c0 z0;go_wp2_with fail;refine(HAdd.out w5 p5 s F05 HPs.out P5.out).mono ?_;rintro e w6 ⟨F6,rfl,hP6,hT6,hG6⟩;have HF:Hid (DigTo w g K l k (addR s id c) F w6):=LH ⟨footP g F6,⟨h1,h2,p5,F6,rfl,hT6.keep H5.out hgF5,hP6⟩,T5.out.trans (hT6.mono fun b _ hb=>.inr hb) G5.out,G5.out.trans hG6.foot T5.out.size⟩;clear hP6 hT6 hG6 c5 z5;go_wp2_with fail;go_ret;exact⟨_,rfl,HE.out s HPs.out,HF.out⟩
    ·have HPs0:=LH (HC2.out fun h=>h0 h.1)
     have h0': (gt == 0) =false:=by simpa using h0
     obtain⟨s,hs⟩ : ∃s,s=r:=⟨_,rfl⟩;have HPs:Hid (PreTo l k r id s):=LH (by rw [hs];exact HPs0.out);clear HPs0;clear HC1 HC2 h0;go_wp2_with fail;refine rX (by kernel_rfl) (by kernel_rfl) ?_
     repeat (go_big_quiet_step (first| (go_at_call 165;exact quiet_ext (HG.out _ (P3.out.below (ext_below _ _)))) | (go_at_call 166;exact quiet_ext (hLn.out _ (D3.out.below (ext_below _ _)))) | (go_at_call 167;exact quiet_ext (made_room _ k h1 h2))))
     refine wpQuiet_nil ?_;intro w5 hb4;replace hb4:=bX hb4;have hT5:Turn F w w5:=Turn.of_below (BB3.out.trans (hb4.mono BB3.out.size));obtain⟨F5,hF5⟩ : ∃F5,F5=F:=⟨_,rfl⟩;have hG5:Grow w F F5:=by rw [hF5];exact Grow.refl
     have hD5:=D3.out.below hb4;rw [←hF5] at hD5;clear hF5;clear hb4 P3 D3 BB3;rw [←hs] at hD5;obtain⟨p5,F05,rfl,hh5,hP5,hgF5,_,_⟩:=hD5.parts;have P5:=LH hP5;have H5:=LH hh5;have T5:=LH hT5;have G5:=LH hG5;have c5:=bC hh5;have z5:=lB hh5;clear hD5 hP5 hh5 hT5 hG5 c0 z0;go_wp2_with fail;refine(HAdd.out w5 p5 s F05 HPs.out P5.out).mono ?_;rintro e w6 ⟨F6,rfl,hP6,hT6,hG6⟩;have HF:Hid (DigTo w g K l k (addR s id c) F w6):=LH ⟨footP g F6,⟨h1,h2,p5,F6,rfl,hT6.keep H5.out hgF5,hP6⟩,T5.out.trans (hT6.mono fun b _ hb=>.inr hb) G5.out,G5.out.trans hG6.foot T5.out.size⟩;clear hP6 hT6 hG6 c5 z5;go_wp2_with fail;go_ret;exact⟨_,rfl,HE.out s HPs.out,HF.out⟩
theorem dig_pool {w:World} {g K l:Nat} {k:Int} {r:List Nd} {F:Nat→Prop} (h:DigAt w g K l k r F) :isPool K l=true:=by
 obtain⟨_,_,p,F0,rfl,_,a,b,_,q,F1,_,hk⟩:=h;simp only [isPool,decide_eq_true_eq];rcases hk with ⟨hk,h16,_⟩ | ⟨hk,_⟩ <;> omega

def encO:Enc Op3 3:=⟨fun x=> [.int .i64 x.1,.int .i64 x.2.1,.int .i64 x.2.2],fun _=>rfl,by intro x u hu;simp at hu;rcases hu with rfl|rfl|rfl <;> rfl⟩
def intsO (l:List Op3) :Prop:=∀x∈l,i64 x.1∧i64 x.2.1∧i64 x.2.2
section
variable {H:Type} {enc:TypeId×Value→H} {w:World} {base:Nat} {spare:Nat→Bool} {held:Bool} {fuel:Nat} {cs:List Value} {x:DataW H×List MemPlace}
end
def callsV (l k K:Int) (A:Option Addr) (n cap:Nat) :Value:=.agg #[.int .i64 l,.int .i64 k,.int .i64 K,.slice A n cap]
theorem DigTo.from {w W w':World} {g K l:Nat} {k:Int} {s:List Nd} {F:Nat→Prop} (hB:Below w.heap.size w W) (h:DigTo W g K l k s F w') :DigTo w g K l k s F w':=by
 obtain⟨F',h1,h2,h3⟩:=h;exact⟨F',h1,(Turn.of_below hB).trans h2 Grow.refl,fun b hb=>(h3 b hb).imp id fun h=>Nat.le_trans hB.size h⟩
def DoPost (g K l:Nat) (k:Int) (r:List Nd) (o:Op3) (F:Nat→Prop) (w:World) (e:Ending) (w':World) :Prop:=
 ∃(r':List Nd) (n:Int),e=.returned (.int .i64 n)∧DoTo l k r o r' n∧DigTo w g K l k r' F w'
theorem DigAt.typed {w:World} {g K l:Nat} {k:Int} {r:List Nd} {F:Nat→Prop} (h:DigAt w g K l k r F) : ∀b,F b→∃t,(t=121∨PoolTypes t)∧TypeAt w b t:=by
 obtain⟨p,F0,rfl,hh,hP,_,_,_⟩:=h.parts;rintro b (rfl|hb)
 ·exact⟨_,.inl rfl,.of hh⟩
 ·obtain⟨t,ht,h⟩:=hP.typed b hb
  exact⟨t,.inr ht,h⟩
theorem DigAt.not_type {w:World} {g K l:Nat} {k:Int} {r:List Nd} {F:Nat→Prop} (h:DigAt w g K l k r F) {b t:Nat} (hb:TypeAt w b t) (ht:t≠121∧t≠204∧t≠254∧t≠3∧t≠256∧t≠216) : ¬F b:=fun hf=>by
 obtain⟨t',h1,h2⟩:=h.typed b hf;have:=typeAt_eq hb h2;subst this;obtain⟨a1,a2,a3,a4,a5,a6⟩:=ht;rcases h1 with h1|h1|h1|h1|h1|h1
 ·exact a1 h1
 ·exact a2 h1
 ·exact a3 h1
 ·exact a4 h1
 ·exact a5 h1
 ·exact a6 h1
theorem SlT.turn {α:Type} {size:Nat} {w w':World} {e:TypeId} {E:Enc α size} {A:Option Addr} {l:List α} {F:Nat→Prop} (h:SlT w e E A l) (ht:Turn F w w') (hF: ∀b,TypeAt w b e→¬F b) :SlT w' e E A l:=by
 rcases h with h| ⟨b,off,hA,hT,hc⟩
 ·exact .inl h
 ·have hk:=ht.block b hT.lt (hF b hT)
  refine .inr ⟨b,off,hA,?_,fun i x hi j u hj=>(World.cell?_of_block hk).trans (hc i x hi j u hj)⟩;obtain⟨cs,fr,hh⟩:=hT;exact⟨cs,fr,hk.trans hh⟩
structure MadeS (w:World) (pb g K l:Nat) (k:Int) (r m:List Nd) (F:Nat→Prop) (A:Option Addr) (cap:Nat) (W:World) :Prop where
 d:DigAt W g K l k r F
 fw: ∀b,F b→w.heap.size≤b
 b:W.heap[pb]? =some (.cells #[.int .i64 l,.slice A m.length cap] 35 (0,0))
 pw:w.heap.size+1<pb
 z:W.heap[w.heap.size+1]? =some (.cells #[.int .i64 0,.slice none 0 0] 35 (0,0))
 s:SlT W 165 encN A m
 blw:Below w.heap.size w W
section
variable {w:World} {pb g K l:Nat} {k:Int} {r r' m m':List Nd} {F F':Nat→Prop} {A A':Option Addr} {cap cap':Nat} {W W':World}
theorem set_one {W:World} {pb t:Nat} {a c u:Value} (h:W.heap[pb]? =some (.cells #[a,c] t (0,0))) : (W.setCell ⟨pb,1,none⟩ u).heap[pb]? =some (.cells #[a,u] t (0,0)):=by
 simp [World.setCell,Array.getElem?_modify,h]
theorem set_nil {W:World} {pb t:Nat} {a c u:Value} (h:W.heap[pb]? =some (.cells #[a,c] t (0,0))) : (W.setCell ⟨pb,0,none⟩ u).heap[pb]? =some (.cells #[u,c] t (0,0)):=by
 simp [World.setCell,Array.getElem?_modify,h]
end
def CallsPost (K l:Nat) (k:Int) (n:Nat) (w:World) (e:Ending) (w':World) :Prop:=
 ∃(g:Nat) (F:Nat→Prop) (r m:List Nd) (A:Option Addr) (cap:Nat),e=.returned (.tuple #[.pointer (some ⟨g,0,none⟩),bagV l A m.length cap])∧DigAt w' g K l k r F∧(∀b,F b→w.heap.size≤b)∧SlT w' 165 encN A m∧Held l k r m∧r.length≤n∧m.length≤n∧(r.length:Int)≤8*k∧Below w.heap.size w w'
theorem SlT.grownO {α β:Type} {size s2:Nat} {W W':World} {e e2 base:Nat} {E:Enc α size} {E2:Enc β s2} {A:Option Addr} {l:List α} {l2:List β} {v:Value} (h:SlT W e E A l) (ho:Own W base e2 E2 v l2) (hg:W.grownBy W' v.ownBlock) (hne:e≠e2) :SlT W' e E A l:=by
 rcases h with h| ⟨b,off,hA,hT,hc⟩
 ·exact .inl h
 ·obtain⟨cs,fr,h1⟩:=hT
  have hb:=ho.ne_block h1 (Ne.symm hne);have hblk:=hg.block b (lB h1) (Ne.symm hb);exact .inr ⟨b,off,hA,⟨cs,fr,hblk.trans h1⟩,fun i x hi j u hj=>(World.cell?_of_block hblk).trans (hc i x hi j u hj)⟩
def ReadPost (s:List UInt8) (w:World) (e:Ending) (w':World) :Prop:=
 ∃A c,e=.returned (.tuple #[.agg #[.int .i64 (readW s).1.1,.int .i64 (readW s).1.2.1,.int .i64 0,.int .i64 (readW s).1.2.2.1,.slice A (readW s).1.2.2.2.length c],.int .i64 (readW s).2])∧SlT w' 216 encN A (readW s).1.2.2.2∧Below w.heap.size w w'
theorem ReadPost.no {s:List UInt8} {w w':World} {er:Int} (h:readW s=noRd er) (hb:Below w.heap.size w w') :ReadPost s w (.returned (.tuple #[.agg #[.int .i64 0,.int .i64 0,.int .i64 0,.int .i64 0,.slice none 0 0],.int .i64 er])) w':=by
 unfold ReadPost;rw [h];exact⟨none,0,rfl,.nil,hb⟩
theorem ReadPost.ok {s:List UInt8} {w w':World} {l k n:Nat} {r:List Nd} {A:Option Addr} {c:Nat} (h:readW s= ((l,(k:Int),(n:Int),r),0)) (hs:SlT w' 216 encN A r) (hb:Below w.heap.size w w') :ReadPost s w (.returned (.tuple #[.agg #[.int .i64 l,.int .i64 k,.int .i64 0,.int .i64 n,.slice A r.length c],.int .i64 0])) w':=by
 unfold ReadPost;rw [h];exact⟨A,c,rfl,hs,hb⟩
structure PrS (w:World) (pr pp:Nat) (s:List UInt8) (e:Int) (l k n:Int) (L:List Nd) (A:Option Addr) (c:Nat) (W:World) :Prop where
 z:W.heap[w.heap.size]? =some (.cells #[.int .i64 0,.int .i64 0,.int .i64 0,.int .i64 0,.slice none 0 0] 283 (0,0))
 r:RdrAt W pr s e
 p:PtAt W pp l k 0 n A L.length c
 o:Own W w.heap.size 216 encN (.slice A L.length c) L
 b:Below w.heap.size w W
 h1:w.heap.size<pr
 h2:pr<pp
section
variable {w W W':World} {pr pp:Nat} {s s2:List UInt8} {e e2 l k n l2 k2 n2:Int} {L L2:List Nd} {A A2:Option Addr} {c c2:Nat}
theorem PrS.below (h:PrS w pr pp s e l k n L A c W) (hb:Below W.heap.size W W') :PrS w pr pp s e l k n L A c W':=
 ⟨bB h.z hb,h.r.below hb,bB h.p hb,h.o.below hb,h.b.trans (hb.mono h.b.size),h.h1,h.h2⟩
theorem PrS.rd (h:PrS w pr pp s e l k n L A c W) (hr:RdTo W pr s2 e2 W') :PrS w pr pp s2 e2 l k n L A c W':=by
 have q1:=h.h1;have q2:=h.h2;exact⟨hr.2.keep h.z (by omega),hr.1,hr.2.keep h.p (by omega),hr.2.own h.o fun b hb q=>h.o.ne_block h.r (by decide) (by rw [hb,q]),h.b.trans (hr.2.below (fun b hb=>by omega) h.b.size),q1,q2⟩
theorem PrS.setP (h:PrS w pr pp s e l k n L A c W) {i:Nat} {u:Value} (hn:PtAt (W.setCell ⟨pp,i,none⟩ u) pp l2 k2 0 n2 A2 L2.length c2) (ho:Own W w.heap.size 216 encN (.slice A2 L2.length c2) L2) :PrS w pr pp s e l2 k2 n2 L2 A2 c2 (W.setCell ⟨pp,i,none⟩ u):=by
 have q1:=h.h1;have q2:=h.h2;exact⟨(Below.heap_setCell _ _ _ _ (by simp;omega)).trans h.z,(Below.heap_setCell _ _ _ _ (by simp;omega)).trans h.r,hn,ho.setCell (p:=⟨pp,i,none⟩) (ho.ne_block h.p (by decide)) u,h.b.setCell (p:=⟨pp,i,none⟩) (by simp;omega) u,q1,q2⟩
end
theorem PrS.push {w W W':World} {pr pp:Nat} {s:List UInt8} {e l k n:Int} {L L2:List Nd} {A A2:Option Addr} {c c2:Nat} (h:PrS w pr pp s e l k n L A c W) (hg:W.grownBy W' (Value.slice A L.length c).ownBlock) (ho:Own W' w.heap.size 216 encN (.slice A2 L2.length c2) L2) (hb:Below w.heap.size W W') :
 PrS w pr pp s e l k n L2 A2 c2 (W'.setCell ⟨pp,4,none⟩ (.slice A2 L2.length c2)):=by
 have q1:=h.h1;have q2:=h.h2;have z1:=blk_grown_not h.z hg (h.o.ne_block h.z (by decide));have r1:=blk_grown_not (o:=.cells #[.string ⟨s.toArray⟩,.int .i64 e] 330 (0,0)) h.r hg (h.o.ne_block h.r (by decide));have p1:PtAt W' pp l k 0 n A L.length c:=blk_grown_not h.p hg (h.o.ne_block h.p (by decide));exact⟨(Below.heap_setCell _ _ _ _ (by simp;omega)).trans z1,(Below.heap_setCell _ _ _ _ (by simp;omega)).trans r1,zH (i:=4) p1 _,ho.setCell (p:=⟨pp,4,none⟩) (ho.ne_block p1 (by decide)) _,(h.b.trans hb).setCell (p:=⟨pp,4,none⟩) (by simp;omega) _,q1,q2⟩
theorem pt_store {W:World} {q:Nat} {a b c d f:Value} (h:W.heap[q]? =some (.cells #[a,b,c,d,f] 283 (0,0))) (u v x y z:Value) : (((((W.setCell ⟨q,0,none⟩ u).setCell ⟨q,1,none⟩ v).setCell ⟨q,2,none⟩ x).setCell ⟨q,3,none⟩ y).setCell ⟨q,4,none⟩ z).heap[q]? =some (.cells #[u,v,x,y,z] 283 (0,0)):=by
 have h0:=zH (i:=0) h u;have h1:=zH (i:=1) h0 v;have h2:=zH (i:=2) h1 x;have h3:=zH (i:=3) h2 y;exact zH (i:=4) h3 z
theorem pt_below {w W:World} {q:Nat} (h:Below w.heap.size w W) (hq:w.heap.size≤q) (u v x y z:Value) :Below w.heap.size w (((((W.setCell ⟨q,0,none⟩ u).setCell ⟨q,1,none⟩ v).setCell ⟨q,2,none⟩ x).setCell ⟨q,3,none⟩ y).setCell ⟨q,4,none⟩ z):=((((h.setCell (p:=⟨q,0,none⟩) hq u).setCell (p:=⟨q,1,none⟩) hq v).setCell (p:=⟨q,2,none⟩) hq x).setCell (p:=⟨q,3,none⟩) hq y).setCell (p:=⟨q,4,none⟩) hq z
theorem pt_slT {W:World} {q:Nat} {cs:Array Value} {A:Option Addr} {L:List Nd} (h:W.heap[q]? =some (.cells cs 283 (0,0))) (s:SlT W 216 encN A L) (u v x y z:Value) :SlT (((((W.setCell ⟨q,0,none⟩ u).setCell ⟨q,1,none⟩ v).setCell ⟨q,2,none⟩ x).setCell ⟨q,3,none⟩ y).setCell ⟨q,4,none⟩ z) 216 encN A L:=by
 have t0:TypeAt W q 283:=.of h;have s0:=s.setCellT (p:=⟨q,0,none⟩) (u:=u) (t:=283) t0 (by decide);have t1:=TypeAt.setCell (p:=⟨q,0,none⟩) (u:=u) t0;have s1:=s0.setCellT (p:=⟨q,1,none⟩) (u:=v) (t:=283) t1 (by decide);have t2:=TypeAt.setCell (p:=⟨q,1,none⟩) (u:=v) t1;have s2:=s1.setCellT (p:=⟨q,2,none⟩) (u:=x) (t:=283) t2 (by decide);have t3:=TypeAt.setCell (p:=⟨q,2,none⟩) (u:=x) t2;have s3:=s2.setCellT (p:=⟨q,3,none⟩) (u:=y) (t:=283) t3 (by decide);have t4:=TypeAt.setCell (p:=⟨q,3,none⟩) (u:=y) t3;exact s3.setCellT (p:=⟨q,4,none⟩) (u:=z) (t:=283) t4 (by decide)
theorem btw_back {v:Nat} {e a b:Int} (h:btwE v e a b=0) :e=0∧a≤(v:Int)∧(v:Int)≤b:=by
 by_cases h0:e=0
 ·subst h0
  rw [btw_zero] at h
  split at h
  ·cases h
  ·exact⟨rfl,by omega,by omega⟩
 ·rw [btw_ne h0] at h;exact absurd h h0
theorem note_back {e f:Int} {b:Bool} (h:noteE e b f=0) (hf:f≠0) :e=0∧b=false:=by
 unfold noteE at h
 split at h
 ·exact absurd h hf
 ·rename_i q
  refine⟨h,?_⟩
  cases b
  ·rfl
  ·exact absurd ⟨rfl,h⟩ q
theorem num_back {e:Int} {s:List UInt8} (h: (numT e s).2.1=0) :e=0:=by
 by_cases h0:e=0
 ·exact h0
 ·rw [num_ne h0] at h;exact absurd h h0
theorem idsT_wrap (l e:Int) (s:List UInt8) {a b:Int} (h:e=0→a=b) :idsT l e s a=idsT l e s b:=by
 by_cases h0:e=0
 ·rw [h h0]
 ·unfold idsT;rw [if_neg h0,if_neg h0]
theorem idsT_len (l e:Int) (s:List UInt8) {m:Int} (h:e=0→m≤8388608) : (idsT l e s m).1.length≤8388608∧(idsT l e s m).2.2.length≤s.length:=by
 unfold idsT
 split
 ·rename_i h0
  have h1:=(fallB_bounds s m).2.2.2;have h2:=h h0;exact⟨by dsimp only;omega,by simp⟩
 ·exact⟨by simp,Nat.le_refl _⟩
theorem raw_len (e:Int) (s:List UInt8) (n:Nat) : (rawT e s n).2.2.length≤s.length:=by
 unfold rawT
 split
 ·rw [List.length_drop];omega
 ·exact Nat.le_refl _
theorem lT_len (e:Int) (s:List UInt8) : (lT e s).2.2.length≤s.length:=raw_len e s 1
theorem lT_le (e:Int) (s:List UInt8) : (lT e s).1≤255:=by
 unfold lT;dsimp only
 split
 ·omega
 ·rename_i b _ _
  have:=b.toNat_lt;omega
theorem q_fits {l k n:Nat} {e:Int} {s:List UInt8} (he:e=0→(1≤l∧l≤48)∧n≤72057594037927935) (h: (cntP (idsT l e s (8* (k:Int))).1 (idsT l e s (8* (k:Int))).2.2 (idsT l e s (8* (k:Int))).2.1 (n:Int) []).2.2.1=0) :
 e=0∧Fits l (cntP (idsT l e s (8* (k:Int))).1 (idsT l e s (8* (k:Int))).2.2 (idsT l e s (8* (k:Int))).2.1 (n:Int) []).1:=by
 have hI: (idsT l e s (8* (k:Int))).2.1=0:=by
  by_cases q: (idsT l e s (8* (k:Int))).2.1=0
  ·exact q
  ·rw [cntP_ne _ _ _ _ _ q] at h;exact absurd h q
 have h0:e=0:=by
  by_cases q:e=0
  ·exact q
  ·unfold idsT at hI;rw [if_neg q] at hI;exact absurd hI q
 refine⟨h0,?_⟩;obtain⟨hl,hn⟩:=he h0;subst h0;have fr:=fallB_rise s (8* (k:Int));have fb:=fallB_bounds s (8* (k:Int));unfold idsT at h hI⊢;rw [if_pos rfl] at h hI⊢;dsimp only at h hI⊢;rw [hI] at h⊢;generalize fallB s (8* (k:Int)) =f at h hI fr fb⊢
 have ha: (f.1.all fun id=>isNode (l:Int) id) =true:=by
  unfold okE at hI
  split at hI
  ·rename_i q;exact absurd hI q
  ·split at hI
   ·rename_i q;exact q
   ·cases hI
 have hc:=cntP_eq f.1 (s.drop f.2.1) (n:Int) [];by_cases h2: (cntF f.1 (s.drop f.2.1) (n:Int) []).2.2.2=0
 ·rw [hc.2 h2]
  exact(cnt_fits hl hn fr (fun x hx=>(fb.2.1 x hx).1) ha h2).1
 ·rw [hc.1 h2] at h;exact absurd h h2
theorem slT_rd {α:Type} {size:Nat} {W W':World} {pr:Nat} {s s2:List UInt8} {e e2:Int} {E:Enc α size} {A:Option Addr} {l:List α} {ty:TypeId} (h:SlT W ty E A l) (hr:RdrAt W pr s e) (ht:RdTo W pr s2 e2 W') (hne:ty≠330:=by decide) :SlT W' ty E A l:=
 h.turn ht.2 fun b hb q=>by
  subst q;obtain⟨cs,fr,hcs⟩:=hb;rw [show W.heap[b]? =_ from hr] at hcs
  injection hcs with hcs
  injection hcs with _ h2
  exact hne h2.symm
theorem wire_read (w:World) (s:List UInt8) (hs:s.length≤8000000) :
 Calls Tryz.prog 223 #[.string ⟨s.toArray⟩] w (ReadPost s w):=by
 have HP0:=LH (readP_eq s).symm;have HOp:=LH (fun W=>seal_Open W s hs);unfold OpenPost at HOp;have hol:=openT_len s;generalize openT s=oo at HP0 HOp hol;obtain⟨t,e0⟩:=oo;dsimp only at HP0 HOp hol;have hts:t.length≤8000000:=by omega
 obtain⟨D,hD⟩ : ∃D,D=readW s:=⟨_,rfl⟩;rw [←hD] at HP0;have HD:=LH hD;clear hol hs hD;have r0:=LH (heap_alloc_new w (.cells #[.int .i64 0,.int .i64 0,.int .i64 0,.int .i64 0,.slice none 0 0] 283));have b0:Hid (Below w.heap.size w (w.alloc (.cells #[.int .i64 0,.int .i64 0,.int .i64 0,.int .i64 0,.slice none 0 0] 283))):=LH bE
 go_enter Tryz.func223,Tryz.ntmps223
 go_upto_region 1 with fail;generalize w.alloc (.cells #[.int .i64 0,.int .i64 0,.int .i64 0,.int .i64 0,.slice none 0 0] 283) =W0 at r0 b0⊢;go_wp2_with fail;refine(HOp.out W0).mono ?_;rintro en w1 ⟨rfl,hb1⟩;have al:=hb1.trans (((Below.refl w1.heap.size w1).alloc (Nat.le_refl _) (.cells #[.string ⟨t.toArray⟩,.int .i64 e0] 330)).mono hb1.size);have r1:=LH (bB r0.out al);have b1:=LH (Below.then_ b0.out al);have c1:=LH (heap_alloc_new w1 (.cells #[.string ⟨t.toArray⟩,.int .i64 e0] 330));have hp1:w.heap.size<w1.heap.size:=by have h1:=lB r0.out;have h2:=hb1.size;omega
 clear hb1 al r0 b0 HOp;go_upto_region 3 with fail;obtain⟨pr,hpr⟩ : ∃q,q=w1.heap.size:=⟨_,rfl⟩;rw [←hpr] at c1 hp1⊢;generalize w1.alloc (.cells #[.string ⟨t.toArray⟩,.int .i64 e0] 330) =w2 at r1 b1 c1⊢;clear hpr;have al:=(Below.refl w2.heap.size w2).alloc (Nat.le_refl _) (.cells #[.int .i64 0,.int .i64 0,.int .i64 0,.int .i64 0,.slice none 0 0] 283);have S3:Hid (PrS w pr w2.heap.size t e0 0 0 0 [] none 0 (w2.alloc (.cells #[.int .i64 0,.int .i64 0,.int .i64 0,.int .i64 0,.slice none 0 0] 283))):=LH ⟨bB r1.out al,bB c1.out al,heap_alloc_new w2 _,Own.nil _ _ _ _,Below.then_ b1.out al,hp1,lB c1.out⟩;clear al r1 b1 c1 hp1;go_upto_region 4 with fail;obtain⟨pp,hpp⟩ : ∃q,q=w2.heap.size:=⟨_,rfl⟩;rw [←hpp] at S3⊢;generalize w2.alloc (.cells #[.int .i64 0,.int .i64 0,.int .i64 0,.int .i64 0,.slice none 0 0] 283) =w3 at S3⊢;clear hpp;unfold qS at HP0;have HRw:=LH (rdr_raw S3.out.r 4 (by omega) (by omega));have hrl: (rawT e0 t 4).2.2.length≤8000000:=Nat.le_trans (raw_len e0 t 4) (by omega);generalize rawT e0 t 4=RR at HP0 HRw hrl;obtain⟨m4,e1,s1⟩:=RR;dsimp only at HP0 HRw hrl;go_wp2_with fail;refine HRw.out.mono ?_;rintro en w4 ⟨rfl,h4⟩;have S4:=LH (S3.out.rd h4);clear h4 HRw S3;obtain⟨mb,hmb⟩ : ∃b,b= (m4 == [68,87,80,1]):=⟨_,rfl⟩;rw [←hmb] at HP0;have hmi: (m4 == [68,87,80,1]) =mb:=hmb.symm;clear hmb;go_wp2_with fail;refine(rdr_fail S4.out.r (!mb) 10).mono ?_;rintro en w5 ⟨rfl,h5⟩;have S5:=LH (S4.out.rd h5);clear h5 S4 hmi;generalize noteE e1 (!mb) 10=e2 at S5 HP0;unfold q0 at HP0;have HLl:=LH (rdr_between_l S5.out.r (by omega) 1 48);have hl1: (lT e2 s1).2.2.length≤8000000:=Nat.le_trans (lT_len e2 s1) (by omega);have hlv:=lT_le e2 s1;generalize lT e2 s1=LL at HP0 HLl hl1 hlv;obtain⟨l,e3,s2⟩:=LL;dsimp only at HP0 HLl hl1 hlv;have HB1:=LH (fun h=>btw_back (v:=l) (e:=e3) (a:=1) (b:=48) h);generalize btwE l e3 1 48=e4 at HLl HP0 HB1;go_wp2_with fail;refine HLl.out.mono ?_;rintro en w6 ⟨rfl,h6⟩;have S6:=LH (S5.out.rd h6);clear h6 HLl S5;have cp:=bC S6.out.p;have fp:=bF S6.out.p;have zp:=lB S6.out.p;go_upto_region 6 with fail;have S7:Hid (PrS w pr pp s2 e4 l 0 0 [] none 0 (w6.setCell ⟨pp,0,none⟩ (.int .i64 l))):=LH (S6.out.setP (zH (i:=0) S6.out.p _) S6.out.o);generalize w6.setCell ⟨pp,0,none⟩ (.int .i64 l) =w7 at S7⊢;clear cp fp zp S6;unfold q1 at HP0;have HNk:=LH (rdr_between_number S7.out.r (by omega) 1 1048576);have hn1:=numT_len e4 s2;have HK0:=LH (fun h=>num_back (e:=e4) (s:=s2) h);generalize numT e4 s2=NK at HP0 HNk hn1 HK0;obtain⟨k,e5,s3⟩:=NK;dsimp only at HP0 HNk hn1 HK0;obtain⟨hn1,hk9⟩:=hn1;have HB2:=LH (fun h=>btw_back (v:=k) (e:=e5) (a:=1) (b:=1048576) h);generalize btwE k e5 1 1048576=e6 at HNk HP0 HB2;go_wp2_with fail;refine HNk.out.mono ?_;rintro en w8 ⟨rfl,h8⟩;have S8:=LH (S7.out.rd h8);clear h8 HNk S7;have cp:=bC S8.out.p;have fp:=bF S8.out.p;have zp:=lB S8.out.p;go_upto_region 7 with fail;have S9:Hid (PrS w pr pp s3 e6 l k 0 [] none 0 (w8.setCell ⟨pp,1,none⟩ (.int .i64 k))):=LH (S8.out.setP (zH (i:=1) S8.out.p _) S8.out.o);generalize w8.setCell ⟨pp,1,none⟩ (.int .i64 k) =w9 at S9⊢;clear cp fp zp S8;unfold q2 at HP0;have HNn:=LH (rdr_between_number S9.out.r (by omega) 0 72057594037927935);have hn2:=numT_len e6 s3;have HN0:=LH (fun h=>num_back (e:=e6) (s:=s3) h);generalize numT e6 s3=NN at HP0 HNn hn2 HN0;obtain⟨n,e7,s4⟩:=NN;dsimp only at HP0 HNn hn2 HN0;obtain⟨hn2,hn9⟩:=hn2;have HB3:=LH (fun h=>btw_back (v:=n) (e:=e7) (a:=0) (b:=72057594037927935) h);generalize btwE n e7 0 72057594037927935=e8 at HNn HP0 HB3;go_wp2_with fail;refine HNn.out.mono ?_;rintro en w10 ⟨rfl,h10⟩;have S10:=LH (S9.out.rd h10);clear h10 HNn S9;have cp:=bC S10.out.p;have fp:=bF S10.out.p;have zp:=lB S10.out.p;go_upto_region 8 with fail;have S11:Hid (PrS w pr pp s4 e8 l k n [] none 0 (w10.setCell ⟨pp,3,none⟩ (.int .i64 n))):=LH (S10.out.setP (zH (i:=3) S10.out.p _) S10.out.o);generalize w10.setCell ⟨pp,3,none⟩ (.int .i64 n) =w11 at S11⊢;clear cp fp zp S10
 have HAll:Hid (e8=0→(1≤l∧l≤48)∧(1≤k∧k≤1048576)∧n≤72057594037927935):=LH fun h=>by
  obtain⟨a1,a2,a3⟩:=HB3.out h;obtain⟨a4,a5,a6⟩:=HB2.out (HN0.out a1);obtain⟨a7,a8,a9⟩:=HB1.out (HK0.out a4);exact⟨by omega,by omega,by omega⟩
 have HFi:=LH (fun h=>q_fits (l:=l) (k:=k) (n:=n) (e:=e8) (s:=s4) (fun q=>⟨(HAll.out q).1,(HAll.out q).2.2⟩) h);unfold q3 at HP0;have HwK:Hid (idsT l e8 s4 (wrap64 (8* (k:Int))) =idsT l e8 s4 (8* (k:Int))):=LH (idsT_wrap _ _ _ fun q=>by have:=(HAll.out q).2.1;unfold wrap64;omega);have HId:=LH (rdr_ids S11.out.r S11.out.p (by have:=S11.out.h2;omega) (wrap64 (8* (k:Int))) (fun q=>by have:=(HAll.out q).2.1;unfold wrap64;omega) (by omega));rw [HwK.out] at HId;have hil:=idsT_len l e8 s4 (m:=8* (k:Int)) (fun q=>by have:=(HAll.out q).2.1;omega);generalize idsT l e8 s4 (8* (k:Int)) =II at HP0 HId hil HFi;obtain⟨ids,e9,s5⟩:=II;dsimp only at HP0 HId hil HFi;unfold IdsPost at HId;dsimp only at HId;obtain⟨hil,hs5⟩:=hil;clear HwK HB1 HB2 HB3 HK0 HN0;have cp:=bC S11.out.p;have zp:=lB S11.out.p;go_wp2_with fail;refine HId.out.mono ?_;rintro en w12 ⟨Ai,ci,rfl,hoi,h12⟩;have S12:=LH (S11.out.rd h12);have SI:=LH hoi.slT;clear hoi h12 HId S11 cp zp;obtain⟨C,hC⟩ : ∃C,C=cntP ids s5 e9 (n:Int) []:=⟨_,rfl⟩;rw [←hC] at HP0 HFi;have HC:=LH hC;clear hC;go_wp2_with fail
 go_loopw [8,54] (fun lv i W=>∃(q:Nat) (left:Int) (u:List UInt8) (e:Int) (out:List Nd) (A:Option Addr) (c:Nat),i=.int .i64 q∧q≤ids.length∧lv=.int .i64 left∧0≤left∧left≤9223372036854775807∧u.length≤8000000∧out.length=q∧cntP (ids.drop q) u e left out=C∧PrS w pr pp u e l k n out A c W∧SlT W 3 encZ Ai ids) (fun _ i _=>ids.length - (intOf i).toNat)
 case atStart=>exact⟨0,n,s5,e9, [],none,0,rfl,Nat.zero_le _,rfl,by omega,by omega,by omega,rfl,HC.out.symm,S12.out,SI.out⟩
 case round=>
  obtain⟨q,left,u,e,out,A,c,rfl,hq,rfl,hl0,hl9,hul,hol,hCq,hS,hI⟩:=hrel;have SS:=LH hS;have II:=LH hI;have HCq:=LH hCq;have HOl:=LH hol;have hol2:out.length≤8388608:=by omega
  clear hS hI hCq hol S12 SI HC;by_cases hlt:q<ids.length
  case pos=>
   have hqi: (q:Int) < (ids.length:Int):=by omega
   rw [List.drop_eq_getElem_cons hlt] at HCq;obtain⟨b,off,rfl,hbt,hc⟩:=II.out.at_ hlt;have d0:=hc 0 (.int .i64 ids[q]) rfl;simp only [Nat.mul_one,Nat.add_zero] at d0;have zb:=cell_lt d0;generalize ids[q] =id at d0 HCq;unfold cntP at HCq;have HNu:=LH (rdr_between_number SS.out.r (by omega) 1 left);have hnu:=numT_len e u;generalize numT e u=N at HNu HCq hnu;obtain⟨cv,ec,u2⟩:=N;dsimp only at HNu HCq hnu;obtain⟨hu2,hcv⟩:=hnu;have HBb:=LH (fun h=>btw_back (v:=cv) (e:=ec) (a:=1) (b:=left) h);generalize btwE cv ec 1 left=e2' at HNu HCq HBb;clear hc;go_wp2_with fail;refine HNu.out.mono ?_;rintro en w13 ⟨rfl,h13⟩;have S13:=LH (SS.out.rd h13);have I13:=LH (h13.2);have II2:Hid (SlT w13 3 encZ (some ⟨b,off,none⟩) ids):=LH (slT_rd II.out SS.out.r h13);clear h13 HNu SS II d0 zb I13;have S14:=LH (S13.out.below ((Below.refl w13.heap.size w13).alloc (Nat.le_refl _) (.cells #[.int .i64 id,.int .i64 cv] 216)));have I14:=LH (II2.out.alloc (.cells #[.int .i64 id,.int .i64 cv] 216));have X14:=LH (heap_alloc_new w13 (.cells #[.int .i64 id,.int .i64 cv] 216));clear S13 II2;go_upto_region 13 with fail;obtain⟨px,hpx⟩ : ∃q,q=w13.heap.size:=⟨_,rfl⟩;rw [←hpx] at X14⊢;generalize w13.alloc (.cells #[.int .i64 id,.int .i64 cv] 216) =w14 at S14 I14 X14⊢;clear hpx;have cx:=bC X14.out;have zx:=lB X14.out;obtain⟨lf,hlf⟩ : ∃x,x=left - (cv:Int):=⟨_,rfl⟩;rw [←hlf] at HCq;have HLf:=LH (And.intro hlf (And.intro hl0 (And.intro hl9 hcv)));have hw:left - (cv:Int) =lf:=hlf.symm;have hlf9:lf≤9223372036854775807∧ -9223372036854775807≤lf:=by omega
   clear hlf;have cp:=bC S14.out.p;have fp:=bF S14.out.p;have zp:=lB S14.out.p;go_wp2_with ((at_builtin;refine wpList_push tyN rfl _ _ rfl encN w14 w.heap.size (.slice A out.length c) out rfl S14.out.o (id,(cv:Int)) (by go_simp) rfl ?c1 ?c2 ?c3 ?c4))
   case c1=>omega
   case c2=>unfold maxLen;omega
   case c3=>exact S14.out.b.size
   case c4=>
    intro v' w15 ho' hg' _ _ hb' _;have O15:=LH ho';have G15:=LH hg';have B15:=LH hb';have I15:=LH (I14.out.grownO S14.out.o hg' (by decide));clear ho' hg' hb' cx zx cp fp zp;obtain⟨L2,hL2⟩ : ∃L,L=out ++ [(id,(cv:Int))]:=⟨_,rfl⟩;rw [←hL2] at O15 HCq;have HL2:=LH (show L2.length=q+1 by rw [hL2,List.length_append,HOl.out];rfl);clear hL2;obtain⟨A2,c2,rfl,_⟩:=O15.out.form;have P15:Hid (PtAt w15 pp l k 0 n A out.length c):=LH (blk_grown_not S14.out.p G15.out (S14.out.o.ne_block S14.out.p (by decide)));have S16:=LH (S14.out.push G15.out O15.out B15.out);have I16:=LH (I15.out.setCellT (p:=⟨pp,4,none⟩) (u:=.slice A2 L2.length c2) (t:=283) (.of P15.out) (by decide));have cp:=bC P15.out;have fp:=bF P15.out;have zp:=lB P15.out;go_upto_region 15 with fail;generalize w15.setCell ⟨pp,4,none⟩ (.slice A2 L2.length c2) =w16 at S16 I16⊢;clear cp fp zp P15 O15 G15 B15 I15 S14 I14 X14;have cr:=bC S16.out.r;have zr:=lB S16.out.r;by_cases he:e2'=0
    case pos=>
     rw [if_neg (by simpa using he)] at HCq;obtain⟨_,hb1,hb2⟩:=HBb.out he;have hei: (e2' == 0) =true:=by simpa using he
     clear he;go_wp2_with fail;go_roundw
     case rel=>exact⟨q+1,lf,u2,e2',L2,A2,c2,by go_num,by omega,rfl,by have:=HLf.out.1;omega,by have:=HLf.out;omega,by omega,HL2.out,HCq.out,S16.out,I16.out⟩
     case measure=>simp [intOf];omega
    case neg=>
     rw [if_pos (by simpa using he)] at HCq;have HE0:=LH he;have hei: (e2' == 0) =false:=by simpa using he
     clear he HBb hw I16;have hLl:L2.length≤8388609:=by rw [HL2.out];omega
     have HCe:=LH (show (L2,u2,e2',lf) =C from HCq.out);clear HCq;have HQ:Hid (D=q4 l k n (L2,u2,e2',lf)):=LH (by rw [HCe.out];exact HP0.out);have HF2:Hid (e2'=0→e8=0∧Fits l L2):=LH fun h=>by have h2:=HFi.out (by rw [←HCe.out];exact h);rw [←HCe.out] at h2;exact h2
     clear HCe HP0 HFi;unfold q4 at HQ;dsimp only at HQ;have HU:Hid (decide (u2≠ []) = !(u2 == [])):=LH (by cases u2 <;> rfl);rw [HU.out] at HQ;clear HU;obtain⟨ub,hub⟩ : ∃b,b= (u2 == []):=⟨_,rfl⟩;rw [←hub] at HQ;have hui: (u2 == []) =ub:=hub.symm;clear hub;obtain⟨lb,hlb⟩ : ∃b,b=decide (0<lf):=⟨_,rfl⟩;rw [←hlb] at HQ;have hli:decide (0<lf) =lb:=hlb.symm;clear hlb;have HBk:Hid (noteE (noteE e2' (!ub) 11) lb 10=0→e2'=0):=LH fun h=>(note_back (note_back h (by decide)).1 (by decide)).1;go_wp2_with fail;refine(rdr_fail S16.out.r (!ub) 11).mono ?_;rintro en w17 ⟨rfl,h17⟩;have S17:=LH (S16.out.rd h17);clear h17 cr zr S16 hui;go_wp2_with fail;refine(rdr_fail S17.out.r lb 10).mono ?_;rintro en w18 ⟨rfl,h18⟩;have S18:=LH (S17.out.rd h18);clear h18 S17 hli;generalize noteE (noteE e2' (!ub) 11) lb 10=e7 at S18 HQ HBk;have cr:=bC S18.out.r;have zr:=lB S18.out.r;by_cases h7:e7=0
     case neg=>
      have HE:=LH (HD.out.symm.trans (HQ.out.trans (if_pos h7)));have h7i: (e7 == 0) =false:=by simpa using h7
      clear h7;go_upto_region 20 with fail;have cz:=bC S18.out.z;have fz:=bF S18.out.z;have zz:=lB S18.out.z;have hn1:=S18.out.h1;have hn2:pr≠w.heap.size:=by omega
      have hn3:w.heap.size≠pr:=by omega
      have Y:=LH (pt_store S18.out.z (.int .i64 0) (.int .i64 0) (.int .i64 0) (.int .i64 0) (.slice none 0 0));have B:=LH (pt_below S18.out.b (q:=w.heap.size) (Nat.le_refl _) (.int .i64 0) (.int .i64 0) (.int .i64 0) (.int .i64 0) (.slice none 0 0))
      go_region
      all_goals go_wp2_with fail
      all_goals clear cr zr cz fz zz hn1 hn2 hn3
      all_goals generalize (((((w18.setCell ⟨w.heap.size,0,none⟩ (.int .i64 0)).setCell ⟨w.heap.size,1,none⟩ (.int .i64 0)).setCell ⟨w.heap.size,2,none⟩ (.int .i64 0)).setCell ⟨w.heap.size,3,none⟩ (.int .i64 0)).setCell ⟨w.heap.size,4,none⟩ (.slice none 0 0)) =wz at Y B⊢
      all_goals have ca:=bC (w:=wz.drew) Y.out
      all_goals have fa:=bF (w:=wz.drew) Y.out
      all_goals have za:=lB (w:=wz.drew) Y.out
      all_goals exact bR (v:=.tuple #[.agg #[.int .i64 0,.int .i64 0,.int .i64 0,.int .i64 0,.slice none 0 0],.int .i64 e7]) (by simp only [results,Tryz.results223];go_simp) rfl (ReadPost.no HE.out B.out.drew)
     have HQ2:Hid (D=if lightOf l L2 (k:Int) =false then noRd 13 else ((l,(k:Int),(n:Int),L2),0)):=LH (HQ.out.trans (if_neg (by simpa using h7)));obtain⟨h80,hfit⟩:=HF2.out (HBk.out h7);obtain⟨hl48,hk20,hn56⟩:=HAll.out h80;have h7i: (e7 == 0) =true:=by simpa using h7
     clear h7 h80 HQ HBk HF2 HAll;have HPl:=LH (fun W h=>pool_Load W 2 l A2 c2 L2 (by unfold isPool;simp;omega) (fits_right hfit hl48) h (fits_ints hfit hl48.2) (by omega));unfold NewPost at HPl;have cp:=bC S18.out.p;have zp:=lB S18.out.p;go_upto_region 21 with fail;clear cr zr;go_wp2_with fail;refine(HPl.out w18 S18.out.o.sl).mono ?_;rintro en w19 ⟨gp,Fp,rfl,hpo,_,hb19⟩;have S19:=LH (S18.out.below hb19);have P19:=LH hpo;clear hpo hb19 S18 HPl cp zp;have HLi:=LH (press_Light w19 gp 2 l L2 Fp k P19.out (by omega) (by omega) (by omega));have cp:=bC S19.out.p;have zp:=lB S19.out.p
     cases hlg:lightOf l L2 (k:Int)
     case false=>
      rw [hlg] at HLi;have HE:=LH (HD.out.symm.trans (HQ2.out.trans (if_pos hlg)));clear hlg;go_wp2_with fail;refine HLi.out.mono ?_;rintro en w20 ⟨rfl,hb20⟩;have S20:=LH (S19.out.below hb20);clear hb20 cp zp S19;go_upto_region 23 with fail;have cz:=bC S20.out.z;have fz:=bF S20.out.z;have zz:=lB S20.out.z;have Y:=LH (pt_store S20.out.z (.int .i64 0) (.int .i64 0) (.int .i64 0) (.int .i64 0) (.slice none 0 0));have B:=LH (pt_below S20.out.b (q:=w.heap.size) (Nat.le_refl _) (.int .i64 0) (.int .i64 0) (.int .i64 0) (.int .i64 0) (.slice none 0 0));go_wp2_with fail;clear cz fz zz;generalize (((((w20.setCell ⟨w.heap.size,0,none⟩ (.int .i64 0)).setCell ⟨w.heap.size,1,none⟩ (.int .i64 0)).setCell ⟨w.heap.size,2,none⟩ (.int .i64 0)).setCell ⟨w.heap.size,3,none⟩ (.int .i64 0)).setCell ⟨w.heap.size,4,none⟩ (.slice none 0 0)) =wz at Y B⊢;have ca:=bC Y.out;have fa:=bF Y.out;have za:=lB Y.out;exact bR (v:=.tuple #[.agg #[.int .i64 0,.int .i64 0,.int .i64 0,.int .i64 0,.slice none 0 0],.int .i64 13]) (by simp only [results,Tryz.results223];go_simp) rfl (ReadPost.no HE.out B.out)
     case true=>
      rw [hlg] at HLi;have HE:=LH (HD.out.symm.trans (HQ2.out.trans (if_neg (by rw [hlg];simp))));clear hlg;go_wp2_with fail;refine HLi.out.mono ?_;rintro en w20 ⟨rfl,hb20⟩;have S20:=LH (S19.out.below hb20);clear hb20 cp zp S19;go_upto_region 24 with fail;have cz:=bC S20.out.z;have fz:=bF S20.out.z;have zz:=lB S20.out.z;have cp:=bC S20.out.p;have zp:=lB S20.out.p;have Y:=LH (pt_store S20.out.z (.int .i64 l) (.int .i64 k) (.int .i64 0) (.int .i64 n) (.slice A2 L2.length c2));have B:=LH (pt_below S20.out.b (q:=w.heap.size) (Nat.le_refl _) (.int .i64 l) (.int .i64 k) (.int .i64 0) (.int .i64 n) (.slice A2 L2.length c2));have T:=LH (pt_slT S20.out.z S20.out.o.slT (.int .i64 l) (.int .i64 k) (.int .i64 0) (.int .i64 n) (.slice A2 L2.length c2));go_wp2_with fail;clear cz fz zz cp zp;generalize (((((w20.setCell ⟨w.heap.size,0,none⟩ (.int .i64 l)).setCell ⟨w.heap.size,1,none⟩ (.int .i64 k)).setCell ⟨w.heap.size,2,none⟩ (.int .i64 0)).setCell ⟨w.heap.size,3,none⟩ (.int .i64 n)).setCell ⟨w.heap.size,4,none⟩ (.slice A2 L2.length c2)) =wz at Y B T⊢;have ca:=bC Y.out;have fa:=bF Y.out;have za:=lB Y.out;exact bR (v:=.tuple #[.agg #[.int .i64 l,.int .i64 k,.int .i64 0,.int .i64 n,.slice A2 L2.length c2],.int .i64 0]) (by simp only [results,Tryz.results223];go_simp) rfl (ReadPost.ok HE.out T.out B.out)
  obtain rfl:q=ids.length:=by omega
  have hqi:decide ((ids.length:Int) < (ids.length:Int)) =false:=by simp
  rw [List.drop_length] at HCq;have hLl:out.length≤8388609:=by omega
  clear II;go_upto_region 17 with fail;have HCe:=LH (show (out,u,e,left) =C from HCq.out);clear HCq;have HQ:Hid (D=q4 l k n (out,u,e,left)):=LH (by rw [HCe.out];exact HP0.out);have HF2:Hid (e=0→e8=0∧Fits l out):=LH fun h=>by have h2:=HFi.out (by rw [←HCe.out];exact h);rw [←HCe.out] at h2;exact h2
  clear HCe HP0 HFi;unfold q4 at HQ;dsimp only at HQ;have HU:Hid (decide (u≠ []) = !(u == [])):=LH (by cases u <;> rfl);rw [HU.out] at HQ;clear HU;obtain⟨ub,hub⟩ : ∃b,b= (u == []):=⟨_,rfl⟩;rw [←hub] at HQ;have hui: (u == []) =ub:=hub.symm;clear hub;obtain⟨lb,hlb⟩ : ∃b,b=decide (0<left):=⟨_,rfl⟩;rw [←hlb] at HQ;have hli:decide (0<left) =lb:=hlb.symm;clear hlb;have HBk:Hid (noteE (noteE e (!ub) 11) lb 10=0→e=0):=LH fun h=>(note_back (note_back h (by decide)).1 (by decide)).1;have cr:=bC SS.out.r;have zr:=lB SS.out.r;go_wp2_with fail;refine(rdr_fail SS.out.r (!ub) 11).mono ?_;rintro en w17 ⟨rfl,h17⟩;have S17:=LH (SS.out.rd h17);clear h17 cr zr SS hui;go_wp2_with fail;refine(rdr_fail S17.out.r lb 10).mono ?_;rintro en w18 ⟨rfl,h18⟩;have S18:=LH (S17.out.rd h18);clear h18 S17 hli;generalize noteE (noteE e (!ub) 11) lb 10=e7 at S18 HQ HBk;have cr:=bC S18.out.r;have zr:=lB S18.out.r;by_cases h7:e7=0
  case neg=>
   have HE:=LH (HD.out.symm.trans (HQ.out.trans (if_pos h7)));have h7i: (e7 == 0) =false:=by simpa using h7
   clear h7;go_upto_region 20 with fail;have cz:=bC S18.out.z;have fz:=bF S18.out.z;have zz:=lB S18.out.z;have hn1:=S18.out.h1;have hn2:pr≠w.heap.size:=by omega
   have hn3:w.heap.size≠pr:=by omega
   have Y:=LH (pt_store S18.out.z (.int .i64 0) (.int .i64 0) (.int .i64 0) (.int .i64 0) (.slice none 0 0));have B:=LH (pt_below S18.out.b (q:=w.heap.size) (Nat.le_refl _) (.int .i64 0) (.int .i64 0) (.int .i64 0) (.int .i64 0) (.slice none 0 0))
   go_region
   all_goals go_wp2_with fail
   all_goals clear cr zr cz fz zz hn1 hn2 hn3
   all_goals generalize (((((w18.setCell ⟨w.heap.size,0,none⟩ (.int .i64 0)).setCell ⟨w.heap.size,1,none⟩ (.int .i64 0)).setCell ⟨w.heap.size,2,none⟩ (.int .i64 0)).setCell ⟨w.heap.size,3,none⟩ (.int .i64 0)).setCell ⟨w.heap.size,4,none⟩ (.slice none 0 0)) =wz at Y B⊢
   all_goals have ca:=bC (w:=wz.drew) Y.out
   all_goals have fa:=bF (w:=wz.drew) Y.out
   all_goals have za:=lB (w:=wz.drew) Y.out
   all_goals exact bR (v:=.tuple #[.agg #[.int .i64 0,.int .i64 0,.int .i64 0,.int .i64 0,.slice none 0 0],.int .i64 e7]) (by simp only [results,Tryz.results223];go_simp) rfl (ReadPost.no HE.out B.out.drew)
  have HQ2:Hid (D=if lightOf l out (k:Int) =false then noRd 13 else ((l,(k:Int),(n:Int),out),0)):=LH (HQ.out.trans (if_neg (by simpa using h7)));obtain⟨h80,hfit⟩:=HF2.out (HBk.out h7);obtain⟨hl48,hk20,hn56⟩:=HAll.out h80;have h7i: (e7 == 0) =true:=by simpa using h7
  clear h7 h80 HQ HBk HF2 HAll;have HPl:=LH (fun W h=>pool_Load W 2 l A c out (by unfold isPool;simp;omega) (fits_right hfit hl48) h (fits_ints hfit hl48.2) (by omega));unfold NewPost at HPl;have cp:=bC S18.out.p;have zp:=lB S18.out.p;go_upto_region 21 with fail;clear cr zr;go_wp2_with fail;refine(HPl.out w18 S18.out.o.sl).mono ?_;rintro en w19 ⟨gp,Fp,rfl,hpo,_,hb19⟩;have S19:=LH (S18.out.below hb19);have P19:=LH hpo;clear hpo hb19 S18 HPl cp zp;have HLi:=LH (press_Light w19 gp 2 l out Fp k P19.out (by omega) (by omega) (by omega));have cp:=bC S19.out.p;have zp:=lB S19.out.p
  cases hlg:lightOf l out (k:Int)
  case false=>
   rw [hlg] at HLi;have HE:=LH (HD.out.symm.trans (HQ2.out.trans (if_pos hlg)));clear hlg;go_wp2_with fail;refine HLi.out.mono ?_;rintro en w20 ⟨rfl,hb20⟩;have S20:=LH (S19.out.below hb20);clear hb20 cp zp S19;go_upto_region 23 with fail;have cz:=bC S20.out.z;have fz:=bF S20.out.z;have zz:=lB S20.out.z;have Y:=LH (pt_store S20.out.z (.int .i64 0) (.int .i64 0) (.int .i64 0) (.int .i64 0) (.slice none 0 0));have B:=LH (pt_below S20.out.b (q:=w.heap.size) (Nat.le_refl _) (.int .i64 0) (.int .i64 0) (.int .i64 0) (.int .i64 0) (.slice none 0 0));go_wp2_with fail;clear cz fz zz;generalize (((((w20.setCell ⟨w.heap.size,0,none⟩ (.int .i64 0)).setCell ⟨w.heap.size,1,none⟩ (.int .i64 0)).setCell ⟨w.heap.size,2,none⟩ (.int .i64 0)).setCell ⟨w.heap.size,3,none⟩ (.int .i64 0)).setCell ⟨w.heap.size,4,none⟩ (.slice none 0 0)) =wz at Y B⊢;have ca:=bC Y.out;have fa:=bF Y.out;have za:=lB Y.out;exact bR (v:=.tuple #[.agg #[.int .i64 0,.int .i64 0,.int .i64 0,.int .i64 0,.slice none 0 0],.int .i64 13]) (by simp only [results,Tryz.results223];go_simp) rfl (ReadPost.no HE.out B.out)
  case true=>
   rw [hlg] at HLi;have HE:=LH (HD.out.symm.trans (HQ2.out.trans (if_neg (by rw [hlg];simp))));clear hlg;go_wp2_with fail;refine HLi.out.mono ?_;rintro en w20 ⟨rfl,hb20⟩;have S20:=LH (S19.out.below hb20);clear hb20 cp zp S19;go_upto_region 24 with fail;have cz:=bC S20.out.z;have fz:=bF S20.out.z;have zz:=lB S20.out.z;have cp:=bC S20.out.p;have zp:=lB S20.out.p;have Y:=LH (pt_store S20.out.z (.int .i64 l) (.int .i64 k) (.int .i64 0) (.int .i64 n) (.slice A out.length c));have B:=LH (pt_below S20.out.b (q:=w.heap.size) (Nat.le_refl _) (.int .i64 l) (.int .i64 k) (.int .i64 0) (.int .i64 n) (.slice A out.length c));have T:=LH (pt_slT S20.out.z S20.out.o.slT (.int .i64 l) (.int .i64 k) (.int .i64 0) (.int .i64 n) (.slice A out.length c));go_wp2_with fail;clear cz fz zz cp zp;generalize (((((w20.setCell ⟨w.heap.size,0,none⟩ (.int .i64 l)).setCell ⟨w.heap.size,1,none⟩ (.int .i64 k)).setCell ⟨w.heap.size,2,none⟩ (.int .i64 0)).setCell ⟨w.heap.size,3,none⟩ (.int .i64 n)).setCell ⟨w.heap.size,4,none⟩ (.slice A out.length c)) =wz at Y B T⊢;have ca:=bC Y.out;have fa:=bF Y.out;have za:=lB Y.out;exact bR (v:=.tuple #[.agg #[.int .i64 l,.int .i64 k,.int .i64 0,.int .i64 n,.slice A out.length c],.int .i64 0]) (by simp only [results,Tryz.results223];go_simp) rfl (ReadPost.ok HE.out T.out B.out)
def PeekPost (s:List UInt8) (w:World) (e:Ending) (w':World) :Prop:=
 e=.returned (.tuple #[.agg #[.int .i64 (readW s).1.1,.int .i64 (readW s).1.2.1,.int .i64 0],.int .i64 (readW s).1.2.2.1,.int .i64 (readW s).1.2.2.2.length,.int .i64 (readW s).2])∧Below w.heap.size w w'
theorem rd_no {o:List UInt8×Int} (h: (rdW o).2≠0) : (rdW o).1= (0,0,0, []):=by
 unfold rdW at h⊢
 split
 ·rfl
 rename_i a1;rw [if_neg a1] at h
 split
 ·rfl
 rename_i a2;rw [if_neg a2] at h
 split
 ·rfl
 rename_i a3;rw [if_neg a3] at h;generalize o.1.drop 4=t at h⊢
 match t with
 | []=>rfl
 |b :: s0=>
  unfold rd0 at h⊢;dsimp only at h⊢
  split
  ·rfl
  rename_i a4;rw [if_neg a4] at h;generalize getB s0=k at h⊢;unfold rd1 at h⊢
  split
  ·rfl
  rename_i a5;rw [if_neg a5] at h
  split
  ·rfl
  rename_i a6;rw [if_neg a6] at h;generalize s0.drop k.2.1=s1 at h⊢;generalize getB s1=n at h⊢;unfold rd2 at h⊢
  split
  ·rfl
  rename_i a7;rw [if_neg a7] at h
  split
  ·rfl
  rename_i a8;rw [if_neg a8] at h;generalize s1.drop n.2.1=s2 at h⊢;generalize fallB s2 (8* (k.1:Int)) =f at h⊢;unfold rd3 at h⊢
  split
  ·rfl
  rename_i a9;rw [if_neg a9] at h
  split
  ·rfl
  rename_i a10;rw [if_neg a10] at h;generalize cntF f.1 (s2.drop f.2.1) (n.1:Int) [] =c at h⊢;unfold rd4 at h⊢
  split
  ·rfl
  rename_i b1;rw [if_neg b1] at h
  split
  ·rfl
  rename_i b2;rw [if_neg b2] at h
  split
  ·rfl
  rename_i b3;rw [if_neg b3] at h
  split
  ·rfl
  rename_i b4;rw [if_neg b4] at h;exact absurd rfl h
theorem cf_store {W:World} {q:Nat} {a b c:Value} (h:W.heap[q]? =some (.cells #[a,b,c] 24 (0,0))) (u v x:Value) : (((W.setCell ⟨q,0,none⟩ u).setCell ⟨q,1,none⟩ v).setCell ⟨q,2,none⟩ x).heap[q]? =some (.cells #[u,v,x] 24 (0,0)):=zH (i:=2) (zH (i:=1) (zH (i:=0) h u) v) x
theorem wire_Peek (w:World) (s:List UInt8) (hs:s.length≤8000000) :Calls Tryz.prog 182 #[.string ⟨s.toArray⟩] w (PeekPost s w):=by
 have HR:=LH (fun W=>wire_read W s hs);unfold PeekPost;unfold ReadPost at HR
 have hml: (readW s).1.2.2.2.length≤67108864:=by
  by_cases h: (readW s).2=0
  ·have h1:=(readW_ok s h).len
   have h2:=(readW_ok s h).k.2;omega
  ·rw [readW_rd] at h⊢
   have: (rdW (openT s)).1= (0,0,0, []):=rd_no h;rw [this];simp
 generalize readW s=M at HR hml⊢;obtain⟨⟨l,k,n,r⟩,er⟩:=M;dsimp only at HR hml⊢;have r0:=LH (heap_alloc_new w (.cells #[.int .i64 0,.int .i64 0,.int .i64 0] 24));have b0:Hid (Below w.heap.size w (w.alloc (.cells #[.int .i64 0,.int .i64 0,.int .i64 0] 24))):=LH bE
 go_enter Tryz.func182,Tryz.ntmps182
 go_upto_region 1 with fail;generalize w.alloc (.cells #[.int .i64 0,.int .i64 0,.int .i64 0] 24) =W0 at r0 b0⊢;go_wp2_with fail;refine(HR.out W0).mono ?_;rintro en w1 ⟨A,c,rfl,hsl,hb1⟩;have al:=hb1.trans (((Below.refl w1.heap.size w1).alloc (Nat.le_refl _) (.cells #[.int .i64 l,.int .i64 k,.int .i64 0,.int .i64 n,.slice A r.length c] 283)).mono hb1.size);have r1:=LH (bB r0.out al);have b1:=LH (Below.then_ b0.out al);have p1:=LH (heap_alloc_new w1 (.cells #[.int .i64 l,.int .i64 k,.int .i64 0,.int .i64 n,.slice A r.length c] 283));have hp1:w.heap.size<w1.heap.size:=by have h1:=lB r0.out;have h2:=hb1.size;omega
 clear hb1 al r0 b0 HR hsl;go_upto_region 2 with fail;obtain⟨pp,hpp⟩ : ∃q,q=w1.heap.size:=⟨_,rfl⟩;rw [←hpp] at p1 hp1⊢;generalize w1.alloc (.cells #[.int .i64 l,.int .i64 k,.int .i64 0,.int .i64 n,.slice A r.length c] 283) =w2 at r1 b1 p1⊢;clear hpp;have cp:=bC p1.out;have zp:=lB p1.out;have cr:=bC r1.out;have zr:=lB r1.out;have fr:=bF r1.out;have hn2:pp≠w.heap.size:=by omega
 have hn3:w.heap.size≠pp:=by omega
 have Y:=LH (cf_store r1.out (.int .i64 l) (.int .i64 k) (.int .i64 0));have B:=LH (((b1.out.setCell (p:=⟨w.heap.size,0,none⟩) (Nat.le_refl _) (.int .i64 l)).setCell (p:=⟨w.heap.size,1,none⟩) (Nat.le_refl _) (.int .i64 k)).setCell (p:=⟨w.heap.size,2,none⟩) (Nat.le_refl _) (.int .i64 0))
 go_region
 all_goals go_wp2_with fail
 all_goals clear cp zp cr zr fr hn2 hn3 hp1
 all_goals generalize ((w2.setCell ⟨w.heap.size,0,none⟩ (.int .i64 l)).setCell ⟨w.heap.size,1,none⟩ (.int .i64 k)).setCell ⟨w.heap.size,2,none⟩ (.int .i64 0) =wz at Y B⊢
 all_goals have ca:=bC (w:=wz.drew) Y.out
 all_goals have fa:=bF (w:=wz.drew) Y.out
 all_goals have za:=lB (w:=wz.drew) Y.out
 all_goals exact bR (v:=.tuple #[.agg #[.int .i64 l,.int .i64 k,.int .i64 0],.int .i64 n,.int .i64 r.length,.int .i64 er]) (by simp only [results,Tryz.results182];go_simp) rfl ⟨rfl,B.out.drew⟩
def DecPost (K:Nat) (s:List UInt8) (w:World) (e:Ending) (w':World) :Prop:=
 ((readW s).2≠0∧e=.returned (.tuple #[.pointer none,.int .i64 (readW s).2])∧Below w.heap.size w w')∨((readW s).2=0∧DigPost K (readW s).1.1 (readW s).1.2.1 (readW s).1.2.2.2 w e w')
theorem wire_Decode (w:World) (s:List UInt8) (K:Nat) (hs:s.length≤8000000) (hK: (readW s).2=0→isPool K (readW s).1.1=true) :Calls Tryz.prog 183 #[.string ⟨s.toArray⟩,.int .i64 K] w (DecPost K s w):=by
 have HR:=LH (fun W=>wire_read W s hs);have HO:=LH (fun h=>readW_ok s h);have HK:=LH hK;unfold ReadPost at HR;have HD:Hid (∀e w',(((readW s).2≠0∧e=.returned (.tuple #[.pointer none,.int .i64 (readW s).2])∧Below w.heap.size w w')∨((readW s).2=0∧DigPost K (readW s).1.1 (readW s).1.2.1 (readW s).1.2.2.2 w e w'))→DecPost K s w e w'):=LH fun _ _ h=>h;clear hK;generalize readW s=M at HR HO HK HD;obtain⟨⟨l,k,n,r⟩,er⟩:=M;dsimp only at HR HO HK HD
 go_enter Tryz.func183,Tryz.ntmps183
 go_wp2_with fail;refine(HR.out w).mono ?_;rintro en w1 ⟨A,c,rfl,hsl,hb1⟩;have b2:=LH (hb1.trans (((Below.refl w1.heap.size w1).alloc (Nat.le_refl _) (.cells #[.int .i64 l,.int .i64 k,.int .i64 0,.int .i64 n,.slice A r.length c] 283)).mono hb1.size));have p2:=LH (heap_alloc_new w1 (.cells #[.int .i64 l,.int .i64 k,.int .i64 0,.int .i64 n,.slice A r.length c] 283));have s2:=LH (hsl.alloc (.cells #[.int .i64 l,.int .i64 k,.int .i64 0,.int .i64 n,.slice A r.length c] 283));have hp1:=hb1.size;clear hb1 HR hsl;go_upto_region 2 with fail;obtain⟨pp,hpp⟩ : ∃q,q=w1.heap.size:=⟨_,rfl⟩;rw [←hpp] at p2 hp1⊢;generalize w1.alloc (.cells #[.int .i64 l,.int .i64 k,.int .i64 0,.int .i64 n,.slice A r.length c] 283) =w2 at b2 p2 s2⊢;clear hpp;by_cases h0:er=0
 ·have ok:=LH (HO.out h0)
  have hk:=HK.out h0;subst h0;have o1:=ok.out.l;have o2:=ok.out.k;have o3:=ok.out.len;dsimp only at o1 o2 o3
  have HLd:=LH (fun W h=>digest_Load W l K k A c r (by
   have hd:isDig l k K=true:=by unfold isDig;rw [hk];simp;omega
   unfold loadErr;rw [if_neg (by simp [hd]),if_neg (by simp [fits_right ok.out.fits o1]),if_neg (by omega),if_neg (by simp [ok.out.light])]) h (fits_ints ok.out.fits o1.2) (by omega))
  unfold DigPost at HLd;have cp:=bC p2.out;have fp:=bF p2.out;have zp:=lB p2.out;clear hk;go_upto_region 5 with fail;have p3:Hid ((w2.setCell ⟨pp,2,none⟩ (.int .i64 K)).heap[pp]? =some (.cells #[.int .i64 l,.int .i64 k,.int .i64 K,.int .i64 n,.slice A r.length c] 283 (0,0))):=LH (zH (i:=2) p2.out _);have s3:=LH (s2.out.setCellT (p:=⟨pp,2,none⟩) (u:=.int .i64 K) (t:=283) (.of p2.out) (by decide));have b3:=LH (b2.out.setCell (p:=⟨pp,2,none⟩) hp1 (.int .i64 K));generalize w2.setCell ⟨pp,2,none⟩ (.int .i64 K) =w3 at p3 s3 b3⊢;clear cp fp zp p2 s2 b2;have cp:=bC p3.out;have zp:=lB p3.out;go_wp2_with fail;refine(HLd.out w3 s3.out.sl).mono ?_;rintro en w4 ⟨g,F,rfl,hd,hF,hb4⟩;have D4:=LH hd;have F4:=LH (fun b h=>Nat.le_trans b3.out.size (hF b h));have b4:=LH (Below.then_ b3.out hb4);clear hd hF hb4 cp zp;go_wp2_with fail;exact bR (v:=.tuple #[.pointer (some ⟨g,0,none⟩),.int .i64 0]) (by simp only [results,Tryz.results183];go_simp) rfl (HD.out _ _ (.inr ⟨by simp,g,F,rfl,D4.out,F4.out,b4.out⟩))
 ·have h0i: (er == 0) =false:=by simpa using h0
  have H0:=LH h0;clear h0;go_wp2_with fail;exact bR (v:=.tuple #[.pointer none,.int .i64 er]) (by simp only [results,Tryz.results183];go_simp) rfl (HD.out _ _ (.inl ⟨H0.out,rfl,b2.out⟩))



def blendErr (la lb:Nat) (ra rb:List Nd) :Int:=if la≠lb then 6 else if 72057594037927935<sumR ra+sumR rb then 5 else 0
theorem blend_wrong (w:World) (ga Ka la:Nat) (ka:Int) (ra:List Nd) (Fa:Nat→Prop) (gb Kb lb:Nat) (kb:Int) (rb:List Nd) (Fb:Nat→Prop) (ha:DigAt w ga Ka la ka ra Fa) (hb:DigAt w gb Kb lb kb rb Fb) :
 Calls Tryz.prog 225 #[.pointer (some ⟨ga,0,none⟩),.pointer (some ⟨gb,0,none⟩)] w fun e w'=>e=.returned (.int .i64 (blendErr la lb ra rb))∧Below w.heap.size w w':=by
 have a0:=sumR_nonneg ha.fits.roll;have a1:=ha.fits.sum;have b0:=sumR_nonneg hb.fits.roll;have b1:=hb.fits.sum;have HCa:=LH (fun W h=>digest_Conf W ga Ka la ka ra Fa h);have HCb:=LH (fun W h=>digest_Conf W gb Kb lb kb rb Fb h);have HNa:=LH (fun W h=>digest_N W ga Ka la ka ra Fa h);have HNb:=LH (fun W h=>digest_N W gb Kb lb kb rb Fb h);have HA:=LH ha;have HB:=LH hb;unfold blendErr;clear ha hb;generalize sumR ra=na at HNa a0 a1⊢;generalize sumR rb=nb at HNb b0 b1⊢;by_cases hl:la=lb
 ·subst hl
  rw [if_neg (by simp)];have hll: ((la:Int) != (la:Int)) =false:=by simp
  by_cases hs:72057594037927935<na+nb
  ·rw [if_pos hs]
   have hs':72057594037927935 - nb<na:=by omega
   clear hs
   go_enter Tryz.func225,Tryz.ntmps225
   go_wp2_with fail;refine(HCa.out w HA.out).mono ?_;rintro e w1 ⟨rfl,hb1⟩;have B1:=LH hb1;clear hb1;go_wp2_with fail;refine(HCb.out w1 (HB.out.below B1.out)).mono ?_;rintro e w2 ⟨rfl,hb2⟩;have B2:=LH (Below.then_ B1.out hb2);clear hb2;go_wp2_with fail;refine(HNa.out w2 (HA.out.below B2.out)).mono ?_;rintro e w3 ⟨rfl,hb3⟩;have B3:=LH (Below.then_ B2.out hb3);clear hb3;go_wp2_with fail;refine(HNb.out w3 (HB.out.below B3.out)).mono ?_;rintro e w4 ⟨rfl,hb4⟩;have B4:=LH (Below.then_ B3.out hb4);clear hb4;go_wp2_with fail;go_ret;exact⟨rfl,B4.out⟩
  ·rw [if_neg hs]
   have hs':decide (72057594037927935 - nb<na) =false:=by simp;omega
   clear hs
   go_enter Tryz.func225,Tryz.ntmps225
   go_wp2_with fail;refine(HCa.out w HA.out).mono ?_;rintro e w1 ⟨rfl,hb1⟩;have B1:=LH hb1;clear hb1;go_wp2_with fail;refine(HCb.out w1 (HB.out.below B1.out)).mono ?_;rintro e w2 ⟨rfl,hb2⟩;have B2:=LH (Below.then_ B1.out hb2);clear hb2;go_wp2_with fail;refine(HNa.out w2 (HA.out.below B2.out)).mono ?_;rintro e w3 ⟨rfl,hb3⟩;have B3:=LH (Below.then_ B2.out hb3);clear hb3;go_wp2_with fail;refine(HNb.out w3 (HB.out.below B3.out)).mono ?_;rintro e w4 ⟨rfl,hb4⟩;have B4:=LH (Below.then_ B3.out hb4);clear hb4;go_wp2_with fail;go_ret;exact⟨rfl,B4.out⟩
 ·rw [if_pos hl]
  have hll: ((la:Int) != (lb:Int)) =true:=by simp;omega
  clear hl
  go_enter Tryz.func225,Tryz.ntmps225
  go_wp2_with fail;refine(HCa.out w HA.out).mono ?_;rintro e w1 ⟨rfl,hb1⟩;have B1:=LH hb1;clear hb1;go_wp2_with fail;refine(HCb.out w1 (HB.out.below B1.out)).mono ?_;rintro e w2 ⟨rfl,hb2⟩;have B2:=LH (Below.then_ B1.out hb2);clear hb2;go_wp2_with fail;go_ret;exact⟨rfl,B2.out⟩
def LowPost (l:Nat) (r:List Nd) (k2:Int) (w:World) (e:Ending) (w':World) :Prop:=
 ∃(v:Value) (ps:List Int) (s:List Nd),e=.returned v∧Own w' w.heap.size 216 encN v s∧RunTo l (sumR r / k2) r ps s∧Below w.heap.size w w'
theorem blend_lowered (w:World) (g K l:Nat) (k:Int) (r:List Nd) (F:Nat→Prop) (h:DigAt w g K l k r F) (hI:ints r) (hlen:r.length≤67108863) (k2:Int) (h1:1≤k2) (h2:k2≤1048576) (hln: ∀ps s,RunTo l (sumR r / k2) r ps s→s.length≤67108864) :
 Calls Tryz.prog 227 #[.pointer (some ⟨g,0,none⟩),.int .i64 k2] w (LowPost l r k2 w):=by
 have hRt:=fits_right h.fits h.l_le;have hKl:=dig_pool h;have HC:=LH (fun W h=>digest_Conf W g K l k r F h);have HNo:=LH (fun W h=>digest_Nodes W g K l k r F h (by omega));have HLd:=LH (fun W A cap hS=>pool_Load W K l A cap r hKl hRt hS hI (by omega));have HRu:=LH (fun W gp Fp h=>press_Run W gp K l r Fp h (by omega) k2 h1 h2);have HLn:=LH hln;have HD:=LH h;unfold LowPost;clear h hI hRt hKl h1 h2 hln
 go_enter Tryz.func227,Tryz.ntmps227
 go_wp2_with fail;refine(HC.out w HD.out).mono ?_;rintro e w1 ⟨rfl,hb1⟩;have al:=hb1.trans (((Below.refl w1.heap.size w1).alloc (Nat.le_refl _) (.cells #[.int .i64 l,.int .i64 k,.int .i64 K] 24)).mono hb1.size);have XC:=LH (heap_alloc_new w1 (.cells #[.int .i64 l,.int .i64 k,.int .i64 K] 24));have D3:=LH (HD.out.below al);have B3:=LH al;clear hb1 al HC HD;go_upto_region 2 with fail;obtain⟨pc,hpc⟩ : ∃q,q=w1.heap.size:=⟨_,rfl⟩;rw [←hpc] at XC⊢;generalize w1.alloc (.cells #[.int .i64 l,.int .i64 k,.int .i64 K] 24) =w3 at XC D3 B3⊢;clear hpc;refine wp_region_noPanic ?_;refine wp_region_N (fun w'=>w'.heap[pc]? =some (.cells #[.int .i64 l,.int .i64 k,.int .i64 K] 24 (0,0))) [] (by kernel_rfl) (XC.out) (fun hHeld=> ?_);refine nP 0 (Value.pointer (some ⟨pc,2,none⟩)) (h:= ?_)
 (try simp only [zA,zB,zC,Act.put,zD,zE,zF])
 refine nT 1 (Value.int .i64 K) (y:=Or.inl ⟨by rfl,fun W hW=>by have q1:=bC hW;have q2:=lB hW;go_simp⟩) (s:=XC.out) (h:= ?_)
 (try simp only [zA,zB,zC,Act.put,zD,zE,zF])
 refine nP 2 (Value.pointer (some ⟨pc,0,none⟩)) (h:= ?_)
 (try simp only [zA,zB,zC,Act.put,zD,zE,zF])
 refine nT 3 (Value.int .i64 l) (y:=Or.inl ⟨by rfl,fun W hW=>by have q1:=bC hW;have q2:=lB hW;go_simp⟩) (s:=XC.out) (h:= ?_)
 (try simp only [zA,zB,zC,Act.put,zD,zE,zF])
 refine nP 4 (Value.pointer (some ⟨g,0,none⟩)) (h:= ?_)
 (try simp only [zA,zB,zC,Act.put,zD,zE,zF])
 refine nO (i:=5) (by kernel_rfl) rfl (fun K hK=> ?_);go_simp;refine(HNo.out w3.drew D3.out.drew).mono ?_;rintro e w4 ⟨vN,rfl,hoN,hb4⟩;obtain⟨AN,cN,rfl,_⟩:=hoN.form;have ON:=LH hoN;have B4:=LH (Below.then_ B3.out.drew hb4);have XC4:=LH (bB (w:=w3.drew) XC.out hb4);clear hb4 hoN;refine hK.out _ _ (fun _ _=>XC4.out) ?_;clear hK K
 (try simp only [zA,zB,zC,Act.put,zD,zE,zF])
 refine nO (i:=6) (by kernel_rfl) rfl (fun K hK=> ?_);go_simp;refine(HLd.out w4 AN cN ON.out.sl).mono ?_;rintro e w5 ⟨gp,Fp,rfl,hP,hF,hb5⟩;have P5:=LH (And.intro hP fun b hb=>Nat.le_trans B4.out.size (hF b hb));have B5:=LH (Below.then_ B4.out hb5);have XC5:=LH (bB XC4.out hb5);clear hb5 hP hF;refine hK.out _ _ (fun _ _=>XC5.out) ?_;clear hK K
 (try simp only [zA,zB,zC,Act.put,zD,zE,zF])
 refine nP 7 (Value.tuple #[.pointer (some ⟨gp,0,none⟩),.int .i64 0]) (h:= ?_)
 (try simp only [zA,zB,zC,Act.put,zD,zE,zF])
 refine nP 8 (Value.pointer (some ⟨gp,0,none⟩)) (h:= ?_)
 (try simp only [zA,zB,zC,Act.put,zD,zE,zF])
 refine nP 9 (Value.int .i64 0) (h:= ?_)
 (try simp only [zA,zB,zC,Act.put,zD,zE,zF])
 refine nP 10 (Value.pointer (some ⟨gp,0,none⟩)) (h:= ?_)
 (try simp only [zA,zB,zC,Act.put,zD,zE,zF])
 refine nO (i:=11) (by kernel_rfl) rfl (fun K hK=> ?_);go_simp;refine hK.out _ _ (fun _ _=>XC5.out) ?_;clear hK K
 (try simp only [zA,zB,zC,Act.put,zD,zE,zF])
 refine nD (by kernel_rfl) ?_ _;refine NoPanic.normal ?_;clear XC XC4 D3 B3 ON HNo HLd;go_upto_region 5 with fail;go_wp2_with fail;refine(HRu.out w5 gp Fp P5.out.1).mono ?_;rintro e w6 ⟨ps,s,rfl,hR,_,Fq,hP6,hT,hG⟩;have B6:=LH (B5.out.trans (hT.below P5.out.2 B5.out.size));have HR:=LH hR;have P6:=LH hP6;have hsl:=HLn.out ps s hR;clear hR hP6 hT hG HRu P5 XC5;go_wp2_with fail;refine(pool_Snap w6 gp K l s Fq P6.out hsl).mono ?_;rintro e w7 ⟨v,rfl,ho,hb7⟩;have O7:=LH (ho.base_le (b:=w.heap.size) B6.out.size);have B7:=LH (Below.then_ B6.out hb7);clear ho hb7;go_wp2_with fail;go_ret;exact⟨v,ps,s,rfl,O7.out,HR.out,B7.out⟩
def JoinPost (a b:List Nd) (w:World) (e:Ending) (w':World) :Prop:=∃v,e=.returned (.tuple #[v,.bool true])∧Own w' w.heap.size 216 encN v (joinR a b)∧Below w.heap.size w w'
theorem roll_Join (w:World) (A B:Option Addr) (ca cb:Nat) (a b:List Nd) (hA:Sl w w.heap.size encN A a) (hB:Sl w w.heap.size encN B b) (ha:Roll a) (hb:Roll b) (ia:ints a) (ib:ints b) (hs:sumR a+sumR b≤72057594037927935) (hn:a.length+b.length≤67108863) :
 Calls Tryz.prog 226 #[.slice A a.length ca,.slice B b.length cb] w (JoinPost a b w):=by
 have HF:=LH (fun W A' c' h h1 h2=>roll_Fold W A' c' (a ++ b) h (fun x hx=>by
  rcases List.mem_append.1 hx with hx|hx
  ·exact ia x hx
  ·exact ib x hx) (fun x hx=>by
  rcases List.mem_append.1 hx with hx|hx
  ·exact ha.2 x hx
  ·exact hb.2 x hx) (by rw [sumR_append];exact hs) h1 h2 (by rw [List.length_append];exact hn))
 have al:Below w.heap.size w (w.alloc (.cells #[.slice A a.length ca,.slice B b.length cb] 129)):=bE
 have HS:Hid (Sl (w.alloc (.cells #[.slice A a.length ca,.slice B b.length cb] 129)) (w.alloc (.cells #[.slice A a.length ca,.slice B b.length cb] 129)).heap.size encSl (some ⟨w.heap.size,0,none⟩) [(A,ca,a),(B,cb,b)]):=LH
  ((sl_lit w encSl [(A,ca,a),(B,cb,b)] 129 _ rfl).keep (by simp) fun p hp=>rfl)
 have HE:Hid (∀s∈ [(A,ca,a),(B,cb,b)],Sl (w.alloc (.cells #[.slice A a.length ca,.slice B b.length cb] 129)) (w.alloc (.cells #[.slice A a.length ca,.slice B b.length cb] 129)).heap.size encN s.1 s.2.2):=LH fun s hs=>by
  rcases List.mem_cons.1 hs with rfl|hs
  ·exact hA.keep al.size fun p hp=>al.cell hp
  ·rw [List.mem_singleton.1 hs]
   exact hB.keep al.size fun p hp=>al.cell hp
 have BW:=LH al;have hall:allN [(A,ca,a),(B,cb,b)] =a ++ b:=by simp [allN]
 have HC:=LH (fun W hS hE=>concat_N W (some ⟨w.heap.size,0,none⟩) 2 [(A,ca,a),(B,cb,b)] hS hE (by rw [hall,List.length_append];omega) (by simp));rw [hall] at HC;unfold JoinPost joinR;generalize a ++ b=L at HC HF⊢;clear hA hB ha hb ia ib hs hn al hall
 go_enter Tryz.func226,Tryz.ntmps226
 go_wp2_with fail;refine(HC.out _ HS.out HE.out).mono ?_;rintro e w1 ⟨v1,rfl,ho1,hb1⟩;obtain⟨A1,c1,rfl,f1,f2,_⟩:=ho1.form;have S1:=LH ho1.sl;have F1:=LH f1;have F2:=LH f2;have B1:=LH (Below.then_ BW.out hb1);clear ho1 hb1 HC HS HE BW f1 f2;go_wp2_with fail;refine(HF.out w1 A1 c1 S1.out F1.out F2.out).mono ?_;rintro e w2 ⟨v2,rfl,ho2,hb2⟩;have O2:=LH (ho2.base_le B1.out.size);have B2:=LH (Below.then_ B1.out hb2);clear ho2 hb2;go_wp2_with fail
 go_ret2
 exact⟨v2,rfl,O2.out,B2.out⟩
def MergePost (l K:Nat) (k2:Int) (ra rb:List Nd) (w:World) (e:Ending) (w':World) :Prop:=
 ∃g F rc,e=.returned (.tuple #[.pointer (some ⟨g,0,none⟩),.int .i64 0])∧DigAt w' g K l k2 rc F∧(∀b,F b→w.heap.size≤b)∧Joined l k2 ra rb rc∧Below w.heap.size w w'
theorem blend_Merge_no (w:World) (ga Ka la:Nat) (ka:Int) (ra:List Nd) (Fa:Nat→Prop) (gb Kb lb:Nat) (kb:Int) (rb:List Nd) (Fb:Nat→Prop) (ha:DigAt w ga Ka la ka ra Fa) (hb:DigAt w gb Kb lb kb rb Fb) (he:blendErr la lb ra rb≠0) :
 Calls Tryz.prog 184 #[.pointer (some ⟨ga,0,none⟩),.pointer (some ⟨gb,0,none⟩)] w fun e w'=>e=.returned (.tuple #[.pointer none,.int .i64 (blendErr la lb ra rb)])∧Below w.heap.size w w':=by
 have HC:=LH (blend_wrong w ga Ka la ka ra Fa gb Kb lb kb rb Fb ha hb);have hne: (blendErr la lb ra rb != 0) =true:=by simpa using he
 clear ha hb he;generalize blendErr la lb ra rb=n at HC hne⊢
 go_enter Tryz.func184,Tryz.ntmps184
 go_wp2_with fail;refine HC.out.mono ?_;rintro e w1 ⟨rfl,hb1⟩;go_wp2_with fail
 go_ret2
 exact⟨rfl,hb1⟩
theorem dig_is {w:World} {g K l:Nat} {k:Int} {r:List Nd} {F:Nat→Prop} (h:DigAt w g K l k r F) {k2:Int} (h1:1≤k2) (h2:k2≤k) :isDig l k2 K=true:=by
 obtain⟨q1,q2,p,F0,_,_,hP⟩:=h;obtain⟨p1,p2,_,p',F',_,hk⟩:=hP;simp only [isDig,isPool,Bool.and_eq_true,decide_eq_true_eq];rcases hk with ⟨rfl,h16,_⟩ | ⟨rfl,_⟩
 ·omega
 ·omega
structure MergeS (w:World) (ga Ka l:Nat) (ka:Int) (ra:List Nd) (Fa:Nat→Prop) (gb Kb:Nat) (kb:Int) (rb:List Nd) (Fb:Nat→Prop) (pc:Nat) (k:Int) (W:World) :Prop where
 a:DigAt W ga Ka l ka ra Fa
 b:DigAt W gb Kb l kb rb Fb
 c:W.heap[pc]? =some (.cells #[.int .i64 l,.int .i64 k,.int .i64 Ka] 24 (0,0))
 blw:Below w.heap.size w W
 lt:w.heap.size≤pc
 na: ¬Fa pc
 nb: ¬Fb pc
section
variable {w:World} {ga Ka l:Nat} {ka:Int} {ra:List Nd} {Fa:Nat→Prop} {gb Kb:Nat} {kb:Int} {rb:List Nd} {Fb:Nat→Prop} {pc:Nat} {k k2:Int} {W W':World}
theorem MergeS.below (h:MergeS w ga Ka l ka ra Fa gb Kb kb rb Fb pc k W) (hb:Below W.heap.size W W') :MergeS w ga Ka l ka ra Fa gb Kb kb rb Fb pc k W':=
 ⟨h.a.below hb,h.b.below hb,bB h.c hb,h.blw.trans (hb.mono h.blw.size),h.lt,h.na,h.nb⟩
theorem MergeS.drew (h:MergeS w ga Ka l ka ra Fa gb Kb kb rb Fb pc k W) :MergeS w ga Ka l ka ra Fa gb Kb kb rb Fb pc k W.drew:=h.below (Below.drew (Below.refl _ _))
theorem MergeS.set (h:MergeS w ga Ka l ka ra Fa gb Kb kb rb Fb pc k W) :MergeS w ga Ka l ka ra Fa gb Kb kb rb Fb pc k2 (W.setCell ⟨pc,1,none⟩ (.int .i64 k2)):=
 ⟨h.a.keep fun b hb=>Below.heap_setCell _ _ _ _ (fun e=>h.na (by have e':b=pc:=e;rw [←e'];exact hb)),h.b.keep fun b hb=>Below.heap_setCell _ _ _ _ (fun e=>h.nb (by have e':b=pc:=e;rw [←e'];exact hb)),zH (i:=1) h.c _,h.blw.setCell (p:=⟨pc,1,none⟩) h.lt _,h.lt,h.na,h.nb⟩
end
theorem blend_Merge (w:World) (ga Ka l:Nat) (ka:Int) (ra:List Nd) (Fa:Nat→Prop) (gb Kb:Nat) (kb:Int) (rb:List Nd) (Fb:Nat→Prop) (ha:DigAt w ga Ka l ka ra Fa) (hb:DigAt w gb Kb l kb rb Fb) (la:lightOf l ra ka=true) (lb:lightOf l rb kb=true) (he:blendErr l l ra rb=0) (na:ra.length≤33554430) (nb:rb.length≤33554430) :
 Calls Tryz.prog 184 #[.pointer (some ⟨ga,0,none⟩),.pointer (some ⟨gb,0,none⟩)] w (MergePost l Ka (min ka kb) ra rb w):=by
 have hll:=ha.l_le;have fa:=ha.fits;have fb:=hb.fits
 have hs:sumR ra+sumR rb≤72057594037927935:=by
  unfold blendErr at he;rw [if_neg (by simp)] at he
  split at he
  ·cases he
  ·omega
 have hW:=LH (fun W h h'=>blend_wrong W ga Ka l ka ra Fa gb Kb l kb rb Fb h h');rw [he] at hW;have a1:=ha.1;have a2:=ha.2.1;have b1:=hb.1;have b2:=hb.2.1;obtain⟨k2,hk2⟩ : ∃k2,k2=min ka kb:=⟨_,rfl⟩;have c1:1≤k2:=by omega
 have c2:k2≤ka:=by omega
 have c3:k2≤kb:=by omega
 have hD:=dig_is ha c1 c2;have la2:=light_weaker fa.roll la c1 c2;have lb2:=light_weaker fb.roll lb c1 c3;have HCa:=LH (fun W h=>digest_Conf W ga Ka l ka ra Fa h);have HCb:=LH (fun W h=>digest_Conf W gb Kb l kb rb Fb h);have HLa:=LH (fun W h=>blend_lowered W ga Ka l ka ra Fa h (fits_ints fa hll.2) (by omega) k2 c1 (by omega) (fun ps s hR=>by have:=hR.folded.len fa;omega));have HLb:=LH (fun W h=>blend_lowered W gb Kb l kb rb Fb h (fits_ints fb hll.2) (by omega) k2 c1 (by omega) (fun ps s hR=>by have:=hR.folded.len fb;omega));have HJ:=LH (fun pa sa pb sb (ha:RunTo l (sumR ra / k2) ra pa sa) (hb:RunTo l (sumR rb / k2) rb pb sb)=>joined_of hll c1 fa fb la2 lb2 hs ha hb);have HJn:=LH (fun pa sa pb sb (ha:RunTo l (sumR ra / k2) ra pa sa) (hb:RunTo l (sumR rb / k2) rb pb sb) W A B ca cb h1 h2=>roll_Join W A B ca cb sa sb h1 h2 (ha.folded.fits fa).roll (hb.folded.fits fb).roll (fits_ints (ha.folded.fits fa) hll.2) (fits_ints (hb.folded.fits fb) hll.2) (by rw [ha.folded.sum fa,hb.folded.sum fb];exact hs) (by have:=ha.folded.len fa;have:=hb.folded.len fb;omega));have HLo:=LH (fun rc (h:Joined l k2 ra rb rc) W A c hS=>digest_Load W l Ka k2 A c rc (h.load hll hD) hS (fits_ints h.fits hll.2) (by have:=h.len;omega));have M0:=LH (And.intro ha hb);unfold MergePost;rw [←hk2];have hmin:=LH hk2;clear ha hb la lb he na nb fa fb hs hD la2 lb2 hk2
 go_enter Tryz.func184,Tryz.ntmps184
 go_wp2_with fail;refine(hW.out w M0.out.1 M0.out.2).mono ?_;rintro e w1 ⟨rfl,hb1⟩;have M1:=LH (And.intro (M0.out.1.below hb1) (M0.out.2.below hb1));have B1:=LH hb1;clear hb1 M0 hW;go_wp2_with fail;refine(HCa.out w1 M1.out.1).mono ?_;rintro e w2 ⟨rfl,hb2⟩
 have M2:Hid (MergeS w ga Ka l ka ra Fa gb Kb kb rb Fb w2.heap.size ka (w2.alloc (.cells #[.int .i64 l,.int .i64 ka,.int .i64 Ka] 24))):=LH (by
  have da:=M1.out.1.below hb2;have db:=M1.out.2.below hb2;have al:=(Below.refl w2.heap.size w2).alloc (Nat.le_refl _) (.cells #[.int .i64 l,.int .i64 ka,.int .i64 Ka] 24);have B2:=Below.then_ B1.out hb2;exact⟨da.below al,db.below al,heap_alloc_new w2 _,B2.trans (al.mono B2.size),B2.size,fun h=>by have:=da.lt _ h;omega,fun h=>by have:=db.lt _ h;omega⟩)
 clear hb2 M1 B1 HCa;go_upto_region 5 with fail;obtain⟨pc,hpc⟩ : ∃p,p=w2.heap.size:=⟨_,rfl⟩;rw [←hpc] at M2⊢;generalize w2.alloc (.cells #[.int .i64 l,.int .i64 ka,.int .i64 Ka] 24) =w3 at M2⊢;clear hpc;refine wp_region_noPanic ?_;refine wp_region_N (fun W'=>MergeS w ga Ka l ka ra Fa gb Kb kb rb Fb pc ka W') [7] (by kernel_rfl) (M2.out.drew) (fun hHeld=> ?_);have M3:=LH hHeld;refine nP 0 (Value.pointer (some ⟨pc,1,none⟩)) (h:= ?_)
 (try simp only [zA,zB,zC,Act.put,zD,zE,zF])
 refine nT 1 (Value.int .i64 ka) (y:=Or.inl ⟨by rfl,fun W hW=>by have q1:=bC hW.c;have q2:=lB hW.c;go_simp⟩) (s:=M3.out) (h:= ?_)
 (try simp only [zA,zB,zC,Act.put,zD,zE,zF])
 refine nP 2 (Value.pointer (some ⟨gb,0,none⟩)) (h:= ?_)
 (try simp only [zA,zB,zC,Act.put,zD,zE,zF])
 refine nO (i:=3) (by kernel_rfl) rfl (fun K hK=> ?_);go_simp;refine(HCb.out w3.drew M3.out.b).mono ?_;rintro e w4 ⟨rfl,hb4⟩;have M4:=LH (M3.out.below hb4);clear hb4;refine hK.out _ _ (fun _ _=>M4.out) ?_;clear hK K
 (try simp only [zA,zB,zC,Act.put,zD,zE,zF])
 refine nP 4 (Value.int .i64 kb) (h:= ?_)
 (try simp only [zA,zB,zC,Act.put,zD,zE,zF])
 refine wpAnyN_pure (i:=5) (v:=Value.int .i64 k2) rfl (by kernel_rfl) (by kernel_rfl) (by kernel_rfl) (fun _ _ _ h=>h) (Or.inl ⟨by rfl,fun W _=>by rw [hmin.out];go_simp⟩) ?_
 (try simp only [zA,zB,zC,Act.put,zD,zE,zF])
 refine nP 6 (Value.pointer (some ⟨pc,1,none⟩)) (h:= ?_)
 (try simp only [zA,zB,zC,Act.put,zD,zE,zF])
 have pcl:=bC M4.out.c;have pf:=bF M4.out.c;have pz:=lB M4.out.c;refine nO (i:=7) (by kernel_rfl) rfl (fun K hK=> ?_);go_simp;refine hK.out _ _ (fun h _=>absurd (List.mem_singleton.2 rfl) h) ?_;clear hK K pf pz pcl
 (try simp only [zA,zB,zC,Act.put,zD,zE,zF])
 refine nD (by kernel_rfl) ?_ _;refine NoPanic.normal ?_;have M5:Hid (MergeS w ga Ka l ka ra Fa gb Kb kb rb Fb pc k2 (w4.setCell ⟨pc,1,none⟩ (.int .i64 k2))):=LH M4.out.set;clear M2 M3 M4 HCb hmin;go_upto_region 6 with fail;generalize w4.setCell ⟨pc,1,none⟩ (.int .i64 k2) =w5 at M5⊢;refine wp_region_noPanic ?_;refine wp_region_N (fun W'=>MergeS w ga Ka l ka ra Fa gb Kb kb rb Fb pc k2 W') [] (by kernel_rfl) (M5.out.drew) (fun hHeld=> ?_);have M6:=LH hHeld;generalize w5.drew=w6 at M6⊢;refine nP 0 (Value.pointer (some ⟨ga,0,none⟩)) (h:= ?_)
 (try simp only [zA,zB,zC,Act.put,zD,zE,zF])
 refine nP 1 (Value.pointer (some ⟨pc,1,none⟩)) (h:= ?_)
 (try simp only [zA,zB,zC,Act.put,zD,zE,zF])
 refine nT 2 (Value.int .i64 k2) (y:=Or.inl ⟨by rfl,fun W hW=>by have q1:=bC hW.c;have q2:=lB hW.c;go_simp⟩) (s:=M6.out) (h:= ?_)
 (try simp only [zA,zB,zC,Act.put,zD,zE,zF])
 refine nP 4 (Value.pointer (some ⟨gb,0,none⟩)) (h:= ?_)
 (try simp only [zA,zB,zC,Act.put,zD,zE,zF])
 refine nP 5 (Value.pointer (some ⟨pc,1,none⟩)) (h:= ?_)
 (try simp only [zA,zB,zC,Act.put,zD,zE,zF])
 refine nT 6 (Value.int .i64 k2) (y:=Or.inl ⟨by rfl,fun W hW=>by have q1:=bC hW.c;have q2:=lB hW.c;go_simp⟩) (s:=M6.out) (h:= ?_)
 (try simp only [zA,zB,zC,Act.put,zD,zE,zF])
 clear M5;refine nO (i:=3) (by kernel_rfl) rfl (fun K hK=> ?_);go_simp;refine(HLa.out w6 M6.out.a).mono ?_;rintro e w7 ⟨va,pa,sa,rfl,ho,hRa,hb7⟩;obtain⟨Aa,ca,rfl,_⟩:=ho.form;have Oa:=LH ho;have Ra:=LH hRa;have M7:=LH (M6.out.below hb7);clear ho hRa hb7;refine hK.out _ _ (fun _ _=>M7.out) ?_;clear hK K
 (try simp only [zA,zB,zC,Act.put,zD,zE,zF])
 refine nO (i:=7) (by kernel_rfl) rfl (fun K hK=> ?_);go_simp;refine(HLb.out w7 M7.out.b).mono ?_;rintro e w8 ⟨vb,pb,sb,rfl,ho,hRb,hb8⟩;obtain⟨Ab,cb,rfl,_⟩:=ho.form;have Ob:=LH ho;have Rb:=LH hRb;have M8:=LH (M7.out.below hb8);have Oa8:=LH (Oa.out.below hb8);clear ho hRb hb8 HLa HLb Oa;refine hK.out _ _ (fun _ _=>M8.out) ?_;clear hK K
 (try simp only [zA,zB,zC,Act.put,zD,zE,zF])
 have JJ:=LH (HJ.out pa sa pb sb Ra.out Rb.out);refine nO (i:=8) (by kernel_rfl) rfl (fun K hK=> ?_);go_simp;refine(HJn.out pa sa pb sb Ra.out Rb.out w8 Aa Ab ca cb Oa8.out.sl Ob.out.sl).mono ?_;rintro e w9 ⟨v9,rfl,ho9,hb9⟩;obtain⟨A9,c9,rfl,_⟩:=ho9.form;have S9:=LH ho9.sl;have M9:=LH (M8.out.below hb9);clear ho9 hb9 HJ HJn Oa8 Ob Ra Rb M6 M7 M8;refine hK.out _ _ (fun _ _=>M9.out) ?_;clear hK K
 (try simp only [zA,zB,zC,Act.put,zD,zE,zF])
 obtain⟨rc,hrc⟩ : ∃r,r=joinR sa sb:=⟨_,rfl⟩;rw [←hrc] at JJ S9⊢;clear hrc;refine nP 9 (Value.tuple #[Value.slice A9 rc.length c9,.bool true]) (h:= ?_)
 (try simp only [zA,zB,zC,Act.put,zD,zE,zF])
 refine nP 10 (Value.slice A9 rc.length c9) (h:= ?_)
 (try simp only [zA,zB,zC,Act.put,zD,zE,zF])
 refine nP 11 (Value.bool true) (h:= ?_)
 (try simp only [zA,zB,zC,Act.put,zD,zE,zF])
 refine nP 12 (Value.slice A9 rc.length c9) (h:= ?_)
 (try simp only [zA,zB,zC,Act.put,zD,zE,zF])
 refine nO (i:=13) (by kernel_rfl) rfl (fun K hK=> ?_);go_simp;refine hK.out _ _ (fun _ _=>M9.out) ?_;clear hK K
 (try simp only [zA,zB,zC,Act.put,zD,zE,zF])
 refine nD (by kernel_rfl) ?_ _;refine NoPanic.normal ?_;have x0:=bC M9.out.c;have xz:=lB M9.out.c;go_wp2_with fail;refine(HLo.out rc JJ.out w9 A9 c9 S9.out).mono ?_;rintro e w10 ⟨gr,Fr,rfl,hd,hf,hb10⟩;have D10:=LH hd;have E10:=LH (fun b hb=>Nat.le_trans M9.out.blw.size (hf b hb));have B10:=LH (Below.then_ M9.out.blw hb10);clear hd hf hb10 x0 xz M9 HLo;go_wp2_with fail
 go_ret2
 exact⟨gr,Fr,rc,rfl,D10.out,E10.out,JJ.out,B10.out⟩
def PlcAt (W:World) (g:Nat) (p:Plc) :Prop:=W.heap[g]? =some (.cells #[.int .i64 p.me,.int .u64 p.kids,.int .i64 p.wait] 144 (0,0))
theorem PlcAt.below {w w':World} {g:Nat} {p:Plc} (h:PlcAt w g p) (hb:Below w.heap.size w w') :PlcAt w' g p:=bB h hb
theorem PlcAt.new (w:World) (p:Plc) :PlcAt (w.alloc (.cells #[.int .i64 p.me,.int .u64 p.kids,.int .i64 p.wait] 144)) w.heap.size p:=heap_alloc_new w _
def rightS (p:Plc) :Bool:=isCrew p.me && rightC p.kids && !hasC p.kids p.me && decide (1≤p.wait) && decide (p.wait≤1048576)
theorem sensor_right (w:World) (p:Plc) (hk:p.kids<2^64) :Calls Tryz.prog 149 #[plcV p] w fun e w'=>e=.returned (.bool (rightS p))∧Below w.heap.size w w':=by
 have HA0:=LH (PlcAt.new w p);have HB0:Hid (Below w.heap.size w (w.alloc (.cells #[.int .i64 p.me,.int .u64 p.kids,.int .i64 p.wait] 144))):=LH bE;have HR:=LH (fun W=>crew_Right p.kids W);have HH:=LH (fun W=>crew_Has p.kids p.me hk W)
 have HO:Hid (∀W n,W.heap.size=n→Calls Tryz.prog 178 #[.slice (some ⟨n,0,none⟩) 1 1] (W.alloc (.cells #[.int .i64 p.me] 3)) fun e w'=>e=.returned (.tuple #[.int .u64 (if isCrew p.me=true then withC 0 p.me else 0:Nat),.bool (isCrew p.me)])∧Below W.heap.size W w'):=LH (fun W n hn=>by
  subst hn;refine(crew_Of1 _ _ _ p.me (Own.lit W encZ [p.me] 3 (Nat.le_refl _) (by simp [maxLen]))).mono ?_;rintro e w' ⟨he,hb⟩;exact⟨he,((Below.refl W.heap.size W).alloc (Nat.le_refl _) _).trans (hb.mono (by simp))⟩)
 generalize hZ:rightS p=Z;have HZ:=LH hZ;clear hZ hk;generalize hU: (if isCrew p.me=true then withC 0 p.me else 0) =U at HO;clear hU;obtain⟨me,kids,wait⟩:=p;unfold plcV;unfold rightS at HZ;dsimp only at*;generalize isCrew me=z1 at*;generalize rightC kids=z2 at*;generalize hasC kids me=z3 at*
 go_enter Tryz.func149,Tryz.ntmps149
 go_wp2_with fail;refine(HO.out _ _ (by simp)).mono ?_;rintro e1 w1 ⟨rfl,hb1⟩;have HB1:=LH (HB0.out.trans (hb1.mono (by simp)));have HA1:=LH (HA0.out.below hb1);clear hb1;have cc:=bC HA1.out;have cf:=bF HA1.out;have zb:=lB HA1.out
 cases z1
 ·go_wp2_with fail
  exact bR (v:=.bool false) (by simp only [results,Tryz.results149];go_simp) rfl ⟨by rw [←HZ.out];rfl,HB1.out⟩
 go_wp2_with fail;refine(HR.out _).mono ?_;rintro e2 w2 ⟨rfl,hb2⟩;have HB2:=LH (HB1.out.trans (hb2.mono HB1.out.size));have HA2:=LH (HA1.out.below hb2);clear hb2 cc cf zb;have cc2:=bC HA2.out;have cf2:=bF HA2.out;have zb2:=lB HA2.out
 cases z2
 ·go_wp2_with fail
  exact bR (v:=.bool false) (by simp only [results,Tryz.results149];go_simp) rfl ⟨by rw [←HZ.out];rfl,HB2.out⟩
 go_wp2_with fail;refine(HH.out _).mono ?_;rintro e3 w3 ⟨rfl,hb3⟩;have HB3:=LH (HB2.out.trans (hb3.mono HB2.out.size));have HA3:=LH (HA2.out.below hb3);clear hb3 cc2 cf2 zb2;have cc3:=bC HA3.out;have cf3:=bF HA3.out;have zb3:=lB HA3.out
 cases z3
 ·by_cases h1:1≤wait
  ·have hd:decide (1≤wait) =true:=by simpa using h1
   rw [hd] at HZ;go_wp2_with fail;exact bR (v:=.bool (decide (wait≤1048576))) (by simp only [results,Tryz.results149];go_simp) rfl ⟨by rw [←HZ.out];rfl,HB3.out⟩
  ·have hd:decide (1≤wait) =false:=by simpa using h1
   rw [hd] at HZ;go_wp2_with fail;exact bR (v:=.bool false) (by simp only [results,Tryz.results149];go_simp) rfl ⟨by rw [←HZ.out];rfl,HB3.out⟩
 ·go_wp2_with fail
  exact bR (v:=.bool false) (by simp only [results,Tryz.results149];go_simp) rfl ⟨by rw [←HZ.out];rfl,HB3.out⟩
def SensAt (w:World) (g K l:Nat) (s:Sen) (r:List Nd) (F:Nat→Prop) :Prop:=∃dg F0,F=footP g F0∧SenAt w g dg s∧s.l=l∧s.kd=K∧DigAt w dg K l s.k r F0∧¬F0 g
section
variable {w w':World} {g K l:Nat} {s:Sen} {r:List Nd} {F:Nat→Prop}
theorem SensAt.lt (h:SensAt w g K l s r F) : ∀b,F b→b<w.heap.size:=by
 obtain⟨dg,F0,rfl,h1,_,_,h2,_⟩:=h;rintro b (rfl|hb)
 ·exact lB h1
 ·exact h2.lt b hb
theorem SensAt.below (h:SensAt w g K l s r F) (hb:Below w.heap.size w w') :SensAt w' g K l s r F:=by
 obtain⟨dg,F0,rfl,h1,h3,h4,h2,h5⟩:=h;exact⟨dg,F0,rfl,h1.below hb,h3,h4,h2.below hb,h5⟩
theorem SensAt.keep (h:SensAt w g K l s r F) (hk: ∀b,F b→w'.heap[b]? =w.heap[b]?) :SensAt w' g K l s r F:=by
 obtain⟨dg,F0,rfl,h1,h3,h4,h2,h5⟩:=h;exact⟨dg,F0,rfl,(hk g (.inl rfl)).trans h1,h3,h4,h2.keep fun b hb=>hk b (.inr hb),h5⟩
theorem SensAt.own (h:SensAt w g K l s r F) :F g:=by
 obtain⟨dg,F0,rfl,_⟩:=h;exact .inl rfl
end
def SensTo (w:World) (g K l:Nat) (s:Sen) (r:List Nd) (F:Nat→Prop) (w':World) :Prop:=∃F',SensAt w' g K l s r F'∧Turn F w w'∧Grow w F F'
theorem SensTo.below {w w':World} {g K l:Nat} {s:Sen} {r:List Nd} {F:Nat→Prop} (h:SensAt w g K l s r F) (hb:Below w.heap.size w w') :SensTo w g K l s r F w':=⟨F,h.below hb,.of_below hb,Grow.refl⟩
theorem SensTo.then_ {w w1 w':World} {g K l:Nat} {s:Sen} {r:List Nd} {F:Nat→Prop} (h:SensTo w g K l s r F w1) (hB:Below w1.heap.size w1 w') :SensTo w g K l s r F w':=by
 obtain⟨F',h1,h2,h3⟩:=h;exact⟨F',h1.below hB,h2.more hB,h3⟩
def newS (l k K:Int) (p:Plc) (ep:Int) :Bool:=isDig l k K && rightS p && decide (0≤ep) && decide (ep≤1099511627776)
def senNew (l k K:Int) (p:Plc) (ep:Int) :Sen:=⟨l,k,K,p,ep,0,0,withC 0 p.me,false⟩
def confV (l k K:Int) :Value:=.agg #[.int .i64 l,.int .i64 k,.int .i64 K]
structure NewS (w:World) (l k K:Int) (p:Plc) (W:World) :Prop where
 c:W.heap[w.heap.size]? =some (.cells #[.int .i64 l,.int .i64 k,.int .i64 K] 24 (0,0))
 p:W.heap[w.heap.size+1]? =some (.cells #[.int .i64 p.me,.int .u64 p.kids,.int .i64 p.wait] 144 (0,0))
 b:Below w.heap.size w W
theorem NewS.below {w W W':World} {l k K:Int} {p:Plc} (h:NewS w l k K p W) (hb:Below W.heap.size W W') :NewS w l k K p W':=⟨bB h.c hb,bB h.p hb,h.b.trans (hb.mono h.b.size)⟩
theorem NewS.first (w:World) (l k K:Int) (p:Plc) :NewS w l k K p ((w.alloc (.cells #[.int .i64 l,.int .i64 k,.int .i64 K] 24)).alloc (.cells #[.int .i64 p.me,.int .u64 p.kids,.int .i64 p.wait] 144)):=
 ⟨(heap_new_lt _ _ _ (by simp)).trans (heap_alloc_new w _),heap_new_at (w.alloc _) _ _ (by simp),bE⟩
def SenPost (K l:Nat) (s:Sen) (w:World) (e:Ending) (w':World) :Prop:=∃g F,e=.returned (.tuple #[.pointer (some ⟨g,0,none⟩),.int .i64 0])∧SensAt w' g K l s [] F∧(∀b,F b→w.heap.size≤b)∧Below w.heap.size w w'
theorem sensor_New_no (w:World) (l k K:Int) (p:Plc) (ep:Int) (hk:p.kids<2^64) (h:newS l k K p ep=false) :
 Calls Tryz.prog 86 #[confV l k K,plcV p,.int .i64 ep] w fun e w'=>e=.returned (.tuple #[.pointer none,.int .i64 2])∧Below w.heap.size w w':=by
 have N0:=LH (NewS.first w l k K p);have HR:=LH (fun W=>sensor_right W p hk);have HD:=LH (fun W=>digest_New_no W l k K)
 have HE:Hid (∀W,isDig l k K=true→∃K' l',Calls Tryz.prog 148 #[.agg #[.int .i64 l,.int .i64 k,.int .i64 K]] W (DigPost K' l' k [] W)):=LH fun W hd=>by
  obtain⟨l',hl⟩ : ∃n:Nat,l=n:=Int.eq_ofNat_of_zero_le (by simp only [isDig,isPool,Bool.and_eq_true,decide_eq_true_eq] at hd;omega);obtain⟨K',hK⟩ : ∃n:Nat,K=n:=Int.eq_ofNat_of_zero_le (by simp only [isDig,isPool,Bool.and_eq_true,decide_eq_true_eq] at hd;omega);subst hl hK;exact⟨K',l',digest_New W l' K' k hd⟩
 unfold newS at h;unfold confV;unfold plcV at HR⊢;clear hk;generalize rightS p=z at HR h;obtain⟨me,kids,wait⟩:=p;dsimp only at*;generalize isDig l k K=d at*
 go_enter Tryz.func86,Tryz.ntmps86
 go_upto_region 1 with fail;generalize (w.alloc (.cells #[.int .i64 l,.int .i64 k,.int .i64 K] 24)).alloc (.cells #[.int .i64 me,.int .u64 kids,.int .i64 wait] 144) =W0 at N0⊢;have c0:=bC N0.out.c;have z0:=lB N0.out.c
 cases d
 ·go_wp2_with fail
  refine(HD.out _ trivial).mono ?_;rintro e w1 ⟨rfl,hb1⟩;have N1:=LH (N0.out.below hb1);clear hb1;go_wp2_with fail;exact bR (v:=.tuple #[.pointer none,.int .i64 2]) (by simp only [results,Tryz.results86];go_simp) rfl ⟨rfl,N1.out.b⟩
 ·go_wp2_with fail
  obtain⟨K',l',HC⟩:=HE.out W0 trivial;refine HC.mono ?_;rintro e w1 ⟨dg,F,rfl,_,_,hb1⟩;have N1:=LH (N0.out.below hb1);have c1:=bC N1.out.p;have z1:=lB N1.out.p;clear hb1 c0 z0 HC HE;go_wp2_with fail;refine(HR.out _).mono ?_;rintro e w2 ⟨rfl,hb2⟩;have N2:=LH (N1.out.below hb2);clear hb2 c1 z1
  cases z
  ·go_wp2_with fail
   exact bR (v:=.tuple #[.pointer none,.int .i64 2]) (by simp only [results,Tryz.results86];go_simp) rfl ⟨rfl,N2.out.b⟩
  ·by_cases h0:ep<0
   ·go_wp2_with fail
    exact bR (v:=.tuple #[.pointer none,.int .i64 2]) (by simp only [results,Tryz.results86];go_simp) rfl ⟨rfl,N2.out.b⟩
   ·have h1:1099511627776<ep:=by
     simp only [Bool.true_and,Bool.and_eq_false_iff,decide_eq_false_iff_not] at h;omega
    have h0':decide (ep<0) =false:=by simpa using h0
    go_wp2_with fail;exact bR (v:=.tuple #[.pointer none,.int .i64 2]) (by simp only [results,Tryz.results86];go_simp) rfl ⟨rfl,N2.out.b⟩
theorem sensor_New (w:World) (l K:Nat) (k:Int) (p:Plc) (ep:Int) (hk:p.kids<2^64) (h:newS l k K p ep=true) :
 Calls Tryz.prog 86 #[confV l k K,plcV p,.int .i64 ep] w (SenPost K l (senNew l k K p ep) w):=by
 have N0:=LH (NewS.first w l k K p);have HR:=LH (fun W=>sensor_right W p hk);have HW:=LH (fun W=>crew_With 0 p.me (by decide) W);unfold newS at h;simp only [Bool.and_eq_true,decide_eq_true_eq] at h;obtain⟨⟨⟨hd,hr⟩,h0⟩,h1⟩:=h;have HD:=LH (fun W=>digest_New W l K k hd);rw [hr] at HR;unfold confV;unfold plcV at HR⊢;clear hk hd hr;obtain⟨me,kids,wait⟩:=p;dsimp only at*;unfold senNew;dsimp only
 go_enter Tryz.func86,Tryz.ntmps86
 go_upto_region 1 with fail;generalize (w.alloc (.cells #[.int .i64 l,.int .i64 k,.int .i64 K] 24)).alloc (.cells #[.int .i64 me,.int .u64 kids,.int .i64 wait] 144) =W0 at N0⊢;have c0:=bC N0.out.c;have z0:=lB N0.out.c;go_wp2_with fail;refine(HD.out W0).mono ?_;rintro e w1 ⟨dg,F,rfl,hd1,hF1,hb1⟩;have D1:=LH hd1;have HF:=LH hF1;have N1:=LH (N0.out.below hb1);have B1:=LH N1.out.b;have c1:=bC N1.out.p;have z1:=lB N1.out.p;clear hd1 hF1 hb1 c0 z0;go_wp2_with fail;refine(HR.out _).mono ?_;rintro e w2 ⟨rfl,hb2⟩;have N2:=LH (N1.out.below hb2);have D2:=LH (D1.out.below hb2);have B2:=LH (Below.then_ B1.out hb2);clear hb2 c1 z1 N1 D1 B1;have h0':decide (ep<0) =false:=by simpa using h0
 have h1':decide (1099511627776<ep) =false:=by simpa using h1
 clear h0 h1;have N0s:=LH N0.out.b.size;go_upto_region 4 with fail;refine wp_region_noPanic ?_;refine wp_region_N (fun w'=>NewS w l k K ⟨me,kids,wait⟩ w') [] (by kernel_rfl) (N2.out.below bE) (fun hHeld=> ?_);refine wpAnyN_take (i:=0) (v:=Value.agg #[.int .i64 l,.int .i64 k,.int .i64 K]) rfl (by kernel_rfl) (by kernel_rfl) (by kernel_rfl) (by kernel_rfl) (fun _ _ _ h=>h) (Or.inl ⟨by rfl,fun W hW=>by have q1:=bC hW.c;have q2:=lB hW.c;have q3:=bC hW.p;have q4:=lB hW.p;go_simp⟩) (N2.out.below bE) ?_
 (try simp only [zA,zB,zC,Act.put,zD,zE,zF])
 refine wpAnyN_take (i:=1) (v:=Value.agg #[.int .i64 me,.int .u64 kids,.int .i64 wait]) rfl (by kernel_rfl) (by kernel_rfl) (by kernel_rfl) (by kernel_rfl) (fun _ _ _ h=>h) (Or.inl ⟨by rfl,fun W hW=>by have q1:=bC hW.c;have q2:=lB hW.c;have q3:=bC hW.p;have q4:=lB hW.p;go_simp⟩) (N2.out.below bE) ?_
 (try simp only [zA,zB,zC,Act.put,zD,zE,zF])
 refine nP 2 (Value.int .i64 ep) (h:= ?_)
 (try simp only [zA,zB,zC,Act.put,zD,zE,zF])
 refine nP 3 (Value.pointer (some ⟨w.heap.size+1,0,none⟩)) (h:= ?_)
 (try simp only [zA,zB,zC,Act.put,zD,zE,zF])
 refine wpAnyN_take (i:=4) (v:=Value.int .i64 me) rfl (by kernel_rfl) (by kernel_rfl) (by kernel_rfl) (by kernel_rfl) (fun _ _ _ h=>h) (Or.inl ⟨by rfl,fun W hW=>by have q1:=bC hW.c;have q2:=lB hW.c;have q3:=bC hW.p;have q4:=lB hW.p;go_simp⟩) (N2.out.below bE) ?_
 (try simp only [zA,zB,zC,Act.put,zD,zE,zF])
 refine nP 6 (Value.pointer (some ⟨dg,0,none⟩)) (h:= ?_)
 (try simp only [zA,zB,zC,Act.put,zD,zE,zF])
 refine nO (i:=5) (by kernel_rfl) rfl (fun K hK=> ?_);go_simp;refine(HW.out _).mono ?_;rintro e w3 ⟨rfl,hb3⟩;have N3:=LH ((N2.out.below (W':=w2.drew) bE).below hb3);have D3:=LH ((D2.out.below (w':=w2.drew) bE).below hb3);have B3:=LH (Below.then_ (W:=w2.drew) (B2.out.drew) hb3);clear hb3;refine hK.out _ _ (fun _ _=>N3.out) ?_;clear hK K
 (try simp only [zA,zB,zC,Act.put,zD,zE,zF])
 refine nP 7 (Value.agg #[.int .i64 l,.int .i64 k,.int .i64 K,.int .i64 me,.int .u64 kids,.int .i64 wait,.int .i64 ep,.int .i64 0,.int .u64 0,.int .u64 ((withC 0 me:Nat) :Int),.bool false,.pointer (some ⟨dg,0,none⟩)]) (h:= ?_)
 (try simp only [zA,zB,zC,Act.put,zD,zE,zF])
 refine nO (i:=8) (by kernel_rfl) rfl (fun K hK=> ?_);go_simp;refine hK.out _ _ (fun _ _=>N3.out.below bE) ?_;clear hK K
 (try simp only [zA,zB,zC,Act.put,zD,zE,zF])
 refine nP 9 (Value.pointer (some ⟨w3.heap.size,0,none⟩)) (h:= ?_)
 (try simp only [zA,zB,zC,Act.put,zD,zE,zF])
 refine nO (i:=10) (by kernel_rfl) rfl (fun K hK=> ?_);go_simp;refine hK.out _ _ (fun _ _=>N3.out.below bE) ?_;clear hK K
 (try simp only [zA,zB,zC,Act.put,zD,zE,zF])
 refine nD (by kernel_rfl) ?_ _;refine NoPanic.normal ?_;clear N0 N2 D2 B2;go_wp2_with fail;have HZ:=LH B3.out.size
 have HX:Hid (SensAt (w3.alloc (.cells #[.int .i64 l,.int .i64 k,.int .i64 K,.int .i64 me,.int .u64 kids,.int .i64 wait,.int .i64 ep,.int .i64 0,.int .u64 0,.int .u64 ((withC 0 me:Nat) :Int),.bool false,.pointer (some ⟨dg,0,none⟩)] 163)) w3.heap.size K l ⟨l,k,K,⟨me,kids,wait⟩,ep,0,0,withC 0 me,false⟩ [] (footP w3.heap.size F)):=
  LH ⟨dg,F,rfl,heap_alloc_new w3 _,rfl,rfl,D3.out.below bE,fun h=>by have:=D3.out.lt _ h;omega⟩
 refine bR (v:=.tuple #[.pointer (some ⟨w3.heap.size,0,none⟩),.int .i64 0]) (by simp only [results,Tryz.results86];go_simp) rfl ⟨w3.heap.size,footP w3.heap.size F,rfl,HX.out,?_,?_⟩
 ·rintro b (rfl|hb)
  ·exact HZ.out
  ·exact Nat.le_trans N0s.out (HF.out b hb)
 ·have B3:=B3.out
  exact bE
theorem flatZC (C:List Int) :C.flatMap encZ.enc=C.map (fun x=>Value.int .i64 x):=by
 induction C with
 |nil=>rfl
 |cons x C ih=>rw [List.flatMap_cons,ih];rfl
theorem dense_Clone_nil (w:World) :Calls Tryz.prog 228 #[.pointer none] w fun e w'=>e=.returned (.pointer none)∧Below w.heap.size w w':=by
 go_enter Tryz.func228,Tryz.ntmps228
 go_wp2_with fail;go_ret;exact⟨rfl,bE⟩
theorem dense_Clone (w:World) (g l:Nat) (r:List Nd) (F:Nat→Prop) (h:DenseAt w g l r F) (h16:l≤16) :Calls Tryz.prog 228 #[.pointer (some ⟨g,0,none⟩)] w fun e w'=>
 ∃g' F',e=.returned (.pointer (some ⟨g',0,none⟩))∧DenseAt w' g' l r F'∧(∀b,F' b→w.heap.size≤b)∧Below w.heap.size w w':=by
 obtain⟨i,hi,hz0,hz1,hz2⟩:=info_parts infoZ;obtain⟨v,C,hh,ho,hl,hc,_⟩:=h;have q5:2^l≤65536:=by have:=Nat.pow_le_pow_right (n:=2) (by decide) h16;simpa using this
 have q6:=Nat.two_pow_pos l;obtain⟨b,off,cap,rfl,hcap⟩:=own_at0 ho (by omega);obtain⟨n,hn⟩ : ∃n,n=C.length:=⟨_,rfl⟩;have n1:n≤131072:=by omega
 have n0:0<n:=by omega
 rw [←hn] at ho hh;have HN:=LH hn;have HL:=LH hl;have HC:=LH hc;have HO:=LH ho;have H:=LH hh;have c:=bC hh;have z:=lB hh;clear hh ho hl hc q5 q6 hn hcap
 go_enter Tryz.func228,Tryz.ntmps228
 go_upto_region 4 with fail;go_wp2_with ((at_make;refine wpList_make_full _ rfl _ _ 22 rfl w.heap.size 3 i (.int .i64 0) 1 Tryz.underlying22 hi hz0 hz1 _ _ _ _ n rfl rfl ?hL ?hC ?b2 ?b3 ?b4 ?hK))
 case hL=>simp
 case hC=>simp
 case b2=>rw [hz2];omega
 case b3=>simp only [maxLen];omega
 case b4=>simp
 case hK=>
  intro w1 hr hg;have hmf:=made_flat encZ 0 #[.int .i64 0] n rfl (by decide);rw [Nat.mul_one] at hmf;rw [hmf] at hr;have b0:Below (w.heap.size+1) (w.alloc (.cells #[.int .i64 l,.int .i64 r.length,.int .i64 (sumR r),.slice (some ⟨b,off,none⟩) n cap] 254)) w1:=(Below.refl _ _).grown hg (by simp) (fun k hk=>by cases hk);have b1:Below w.heap.size w w1:=((Below.refl w.heap.size w).alloc (Nat.le_refl _) _).trans (b0.mono (Nat.le_succ _));have k1:=(b0.block w.heap.size (by omega)).trans (heap_alloc_new w _)
  obtain⟨cur,kc,hcs⟩ : ∃cur,w1.heap[w.heap.size+1]? =some (.cells cur 3 (0,0))∧cur.size=n:=by
   obtain⟨_,⟨_,h0⟩ | ⟨g',cap',cur,he,_,hc,_,_,hs,_⟩⟩:=hr
   ·omega
   ·simp only [Value.slice.injEq,Option.some.injEq,Addr.mk.injEq,true_and,and_true] at he
    obtain⟨rfl,rfl⟩:=he;exact⟨cur,hc,by omega⟩
  have kg:=LH ((b1.block g z).trans H.out);have ko:=LH ((HO.out.of_block fun q hq=>b1.block q (HO.out.lt q hq).2:Own w1 0 3 encZ _ C));have K1:=LH k1;have KC:=LH kc;have cs1:=LH hcs;have c1:=bC k1;have z1:=lB k1;have f1:=bF k1;have B1:=LH b1;clear b0 b1 hr hg hmf c k1 kc hcs;go_upto_region 5 with fail
  have hne:Value.ownBlock (.slice (some ⟨b,off,none⟩) n cap)≠some w.heap.size:=fun he=>by
   have:=(HO.out.lt _ he).2;omega
  have k2: (w1.setCell ⟨w.heap.size,3,none⟩ (.slice (some ⟨w.heap.size+1,0,none⟩) n n)).heap[w.heap.size]? =some (.cells #[.int .i64 l,.int .i64 r.length,.int .i64 (sumR r),.slice (some ⟨w.heap.size+1,0,none⟩) n n] 254 (0,0)):=zH (i:=3) K1.out _;have g2:=(Below.heap_setCell w1 ⟨w.heap.size,3,none⟩ (.slice (some ⟨w.heap.size+1,0,none⟩) n n) g (by simp;omega)).trans kg.out;have r2:=(Below.heap_setCell w1 ⟨w.heap.size,3,none⟩ (.slice (some ⟨w.heap.size+1,0,none⟩) n n) (w.heap.size+1) (by simp)).trans KC.out;have o2:=ko.out.setCell (p:=⟨w.heap.size,3,none⟩) hne (.slice (some ⟨w.heap.size+1,0,none⟩) n n);have b2:Below w.heap.size w (w1.setCell ⟨w.heap.size,3,none⟩ (.slice (some ⟨w.heap.size+1,0,none⟩) n n)):=B1.out.setCell (Nat.le_refl _) _;generalize w1.setCell ⟨w.heap.size,3,none⟩ (.slice (some ⟨w.heap.size+1,0,none⟩) n n) =W2 at k2 g2 r2 o2 b2⊢;clear K1 kg ko KC B1 c1 z1 f1;obtain⟨cs,hcs⟩ : ∃cs,cs=C.map (fun x=>Value.int .i64 x):=⟨_,rfl⟩;have el:cs.length=n:=by rw [hcs,List.length_map];exact HN.out.symm
  have e1: ∀u∈cs,u.oneCell'=true:=by
   intro u hu;rw [hcs] at hu;obtain⟨x,_,rfl⟩:=List.mem_map.1 hu
   rfl
  have src: ∀j u,cs[j]? =some u→W2.cell? ((⟨b,off,none⟩ :Addr).add j) =some u:=by
   intro j u hj;rcases o2 with ⟨h0,_⟩ | ⟨b',off',cap',cur',he,_,hb2,_,_,_,hx⟩
   ·cases h0
   ·simp only [Value.slice.injEq,Option.some.injEq,Addr.mk.injEq,and_true] at he
    obtain⟨⟨rfl,rfl⟩,_⟩:=he;rw [add_plain,bC hb2];refine hx j u ?_;rw [hcs,List.getElem?_map] at hj;rw [flatZC,List.getElem?_map];exact hj
  have c2:=bC k2;have z2:=lB k2;have f2:=bF k2;have c3:=bC g2;have HB:=LH b2;have hlt0:Hid (b<W2.heap.size):=LH (o2.lt b rfl).2;have HK:=LH k2;have G2:=LH g2;have HS:=LH src;have HE:=LH e1;have R2:=LH r2;have EL:=LH el;have CS:=LH cs1.out;have HCS:=LH hcs;clear b2 k2 src e1 r2 el g2 o2 hcs;refine wp_region_N (fun W=>Below W2.heap.size W2 W) [6] (by kernel_rfl) (Below.drew (Below.refl _ _)) (fun hHeld=> ?_);refine nP 0 (.pointer (some ⟨w.heap.size,3,none⟩)) (h:= ?_)
  (try simp only [Act.put,zD,zE,zF])
  refine nT 1 (.slice (some ⟨w.heap.size+1,0,none⟩) n n) (y:=Or.inl ⟨by rfl,fun W hW=>by have q1:=bC (bB HK.out hW);have q2:=bC (bB G2.out hW);go_simp⟩) (s:=hHeld) (h:= ?_)
  (try simp only [Act.put,zD,zE,zF])
  refine nP 2 (.pointer (some ⟨g,0,none⟩)) (h:= ?_)
  (try simp only [Act.put,zD,zE,zF])
  refine nP 3 (.pointer (some ⟨g,0,none⟩)) (h:= ?_)
  (try simp only [Act.put,zD,zE,zF])
  refine nP 4 (.pointer (some ⟨g,3,none⟩)) (h:= ?_)
  (try simp only [Act.put,zD,zE,zF])
  refine nT 5 (.slice (some ⟨b,off,none⟩) n cap) (y:=Or.inl ⟨by rfl,fun W hW=>by have q1:=bC (bB HK.out hW);have q2:=bC (bB G2.out hW);go_simp⟩) (s:=hHeld) (h:= ?_)
  (try simp only [Act.put,zD,zE,zF])
  have BW:=LH hHeld;clear hHeld;generalize W2.drew=W3 at BW⊢;have r3:=bB R2.out BW.out;have k3:=LH (bB HK.out BW.out);refine nO (i:=6) (by kernel_rfl) rfl (fun K hK=> ?_);go_simp;rw [run_copy_row (P:=Tryz.prog) W3 22 22 _ 3 (w.heap.size+1) 0 n n ⟨b,off,none⟩ n cap cur 3 cs Tryz.underlying22 (by kernel_rfl) r3 (by rw [EL.out];exact(Nat.min_self n).symm) (fun j u hj=>(BW.out.cell ?hlt).trans (HS.out j u hj)) (by rw [EL.out,CS.out];omega) HE.out]
  case hlt=>rw [add_plain];exact hlt0.out
  go_simp;refine hK.out _ _ (fun h=>absurd (by simp) h) ?_;refine nD (by kernel_rfl) ?_ _;have row:=LH (setRow_heap W3 (w.heap.size+1) _ (cs ++ List.drop cs.length cur.toList).toArray 3 _ r3);have k4:=LH ((setRow_other W3 (w.heap.size+1) w.heap.size (cs ++ List.drop cs.length cur.toList).toArray (by omega)).trans k3.out);have b4:=LH (below_setRow (HB.out.trans (BW.out.mono HB.out.size)) (Nat.le_succ _) (cs ++ List.drop cs.length cur.toList).toArray:Below w.heap.size w (W3.setRow (w.heap.size+1) _));generalize W3.setRow (w.heap.size+1) (cs ++ List.drop cs.length cur.toList).toArray=W4 at row k4 b4⊢;clear hK K r3 k3;go_wp2_with fail;go_ret;refine⟨w.heap.size,_,rfl,⟨_,C,k4.out,.inr ⟨w.heap.size+1,0,n,_,by rw [HN.out],Nat.zero_le _,row.out,Nat.le_of_eq HN.out.symm,by simp only [maxLen];omega,by simp [EL.out],fun j u hj=> ?_⟩,HL.out,HC.out,rfl⟩,?_,b4.out⟩
  ·rw [flatZC,←HCS.out] at hj
   have hlt:j<cs.length:=(List.getElem?_eq_some_iff.1 hj).1;simp only [Nat.zero_add,List.getElem?_toArray];rw [List.getElem?_append_left hlt];exact hj
  ·rintro q (rfl|hq)
   ·exact Nat.le_refl _
   ·cases hq;exact Nat.le_succ _
theorem clone_T (w:World) (A:Option Addr) (cap:Nat) (l:List Nd) (hS:Sl w w.heap.size encN A l) (hn:l.length≤17179869184) :
 Calls Tryz.prog 282 #[.slice A l.length cap] w (OwnPost 216 encN l w):=by
 rcases A with _|a
 ·have h0:l= []:=by
   rcases hS with h| ⟨b,off,hA,_⟩
   ·exact h
   ·cases hA
  subst h0
  go_enter Tryz.func282,Tryz.ntmps282
  go_wp2_with fail;go_ret;exact⟨_,rfl,Own.nil _ _ _ _,bE⟩
 ·have HS:=LH hS
  clear hS
  go_enter Tryz.func282,Tryz.ntmps282
  go_wp2_with ((at_builtin;refine wpList_app tyN rfl _ _ rfl encN w.heap.size (.slice (some ⟨w.heap.size,0,none⟩) 0 0) [] rfl ?ho (some a) cap l w.heap.size rfl ?hs ?c1 ?c2 ?c3 ?c4))
  case ho=>exact .inr ⟨w.heap.size,0,0, #[],rfl,Nat.le_refl _,heap_alloc_new w _,Nat.le_refl _,by simp,by simp,fun j u hj=>by simp at hj⟩
  case hs=>exact HS.out.keep (Nat.le_refl _) fun p hp=>((Below.refl w.heap.size w).alloc (Nat.le_refl _) _).cell hp
  case c1=>simp;omega
  case c2=>simp [maxLen];omega
  case c3=>simp
  case c4=>
   intro v' w1 ho1 _ _ hb1 _;have B1:Below w.heap.size w w1:=((Below.refl w.heap.size w).alloc (Nat.le_refl _) _).trans hb1;have HO1:=LH (show Own w1 w.heap.size 216 encN v' l by simpa using ho1);clear ho1;go_wp2_with fail;go_ret;exact⟨_,rfl,HO1.out,B1⟩
theorem probe_Clone_nil (w:World) :Calls Tryz.prog 229 #[.pointer none] w fun e w'=>e=.returned (.pointer none)∧Below w.heap.size w w':=by
 go_enter Tryz.func229,Tryz.ntmps229
 go_wp2_with fail;go_ret;exact⟨rfl,bE⟩
theorem PInv.length {b:Nat} {S m:List Nd} (h:PInv b S m) :S.length=2^b:=h.len
theorem probe_Clone (w:World) (g l:Nat) (r:List Nd) (F:Nat→Prop) (h:ProbeAt w g l r F) :Calls Tryz.prog 229 #[.pointer (some ⟨g,0,none⟩)] w fun e w'=>
 ∃g' F',e=.returned (.pointer (some ⟨g',0,none⟩))∧ProbeAt w' g' l r F'∧(∀b,F' b→w.heap.size≤b)∧Below w.heap.size w w':=by
 obtain⟨v,S,b,hh,ho,hI,h3,h34,h2,_⟩:=h
 have hlen:S.length≤17179869184:=by
  have:=PInv.length hI;have h5:=Nat.pow_le_pow_right (n:=2) (by decide) h34;have h6: (2:Nat) ^34=17179869184:=by decide
  omega
 obtain⟨A,cap,rfl,hc1,hc2,hS⟩:=ho.rd;have HC:=LH (fun (W:World) (a:Sl W W.heap.size encN A S)=>clone_T W A cap S a hlen);have HS:=LH hS;have HI:=LH hI;have H2:=LH h2;have c:=bC hh;have z:=lB hh;clear hh ho hS hI h2 hc1 hc2 hlen
 go_enter Tryz.func229,Tryz.ntmps229
 go_wp2_with fail;refine(HC.out _ ?hs).mono ?_
 case hs=>exact HS.out.keep (by simp) fun p hp=>((Below.refl w.heap.size w).alloc (Nat.le_refl _) _).cell hp
 rintro e w1 ⟨v',rfl,ho1,hb1⟩;obtain⟨A',cap',rfl,hf1,hf2,_⟩:=ho1.form;have k1:=bB (heap_alloc_new w _) hb1;have c1:=bC k1;have z1:=lB k1;have f1:=bF k1;have B1:=LH (((Below.refl w.heap.size w).alloc (Nat.le_refl _) (.cells #[.int .i64 l,.int .i64 b,.int .i64 r.length,.int .i64 (sumR r),.slice A S.length cap] 256)).trans (hb1.mono (by simp)));have K1:=LH k1;have O1:=LH ho1;clear c k1 ho1 hb1;go_wp2_with fail;go_ret
 have hne:Value.ownBlock (.slice A' S.length cap')≠some w.heap.size:=fun he=>by
  have:=(O1.out.lt _ he).1;simp at this
  omega
 refine⟨w.heap.size,_,rfl,⟨_,S,b,zH (i:=4) K1.out _,(O1.out.setCell (p:=⟨w.heap.size,4,none⟩) hne _).base_le (Nat.zero_le _),HI.out,h3,h34,H2.out,rfl⟩,?_,B1.out.setCell (Nat.le_refl _) _⟩;rintro q (rfl|hq)
 ·exact Nat.le_refl _
 ·have:=(O1.out.lt _ hq).1
  simp at this
  omega
theorem pool_Clone (w:World) (g K l:Nat) (r:List Nd) (F:Nat→Prop) (h:PoolAt w g K l r F) :Calls Tryz.prog 185 #[.pointer (some ⟨g,0,none⟩)] w fun e w'=>
 ∃g' F',e=.returned (.pointer (some ⟨g',0,none⟩))∧PoolAt w' g' K l r F'∧(∀b,F' b→w.heap.size≤b)∧Below w.heap.size w w':=by
 obtain⟨h1,h2,hf,p,F0,_,h4⟩:=h;have HF:=LH hf;rcases h4 with ⟨rfl,h16,hh,hd⟩ | ⟨rfl,hh,hd⟩
 ·skip
  have H:=LH hh;have Z:=LH (lB hh);have HD:=LH hd;clear hh hd hf
  go_enter Tryz.func185,Tryz.ntmps185
  go_upto_region 3 with fail;refine wp_region_N (fun W=>Below w.heap.size w W) [] (by kernel_rfl) (Below.drew (Below.refl _ _)) (fun hHeld=> ?_);refine nP 0 (.pointer (some ⟨g,0,none⟩)) (h:= ?_)
  (try simp only [Act.put,zD,zE,zF])
  refine nP 1 (.pointer (some ⟨g,0,none⟩)) (h:= ?_)
  (try simp only [Act.put,zD,zE,zF])
  refine nP 2 (.pointer (some ⟨g,0,none⟩)) (h:= ?_)
  (try simp only [Act.put,zD,zE,zF])
  refine nT 3 (.pointer (some ⟨p,0,none⟩)) (y:=Or.inl ⟨by rfl,fun W hW=>by have q1:=bC ((hW.block g Z.out).trans H.out);go_simp⟩) (s:=hHeld) (h:= ?_)
  (try simp only [Act.put,zD,zE,zF])
  refine nP 5 (.pointer (some ⟨g,0,none⟩)) (h:= ?_)
  (try simp only [Act.put,zD,zE,zF])
  refine nP 6 (.pointer (some ⟨g,0,none⟩)) (h:= ?_)
  (try simp only [Act.put,zD,zE,zF])
  refine nP 7 (.pointer (some ⟨g,1,none⟩)) (h:= ?_)
  (try simp only [Act.put,zD,zE,zF])
  refine nT 8 (.pointer none) (y:=Or.inl ⟨by rfl,fun W hW=>by have q1:=bC ((hW.block g Z.out).trans H.out);go_simp⟩) (s:=hHeld) (h:= ?_)
  (try simp only [Act.put,zD,zE,zF])
  have B0:=hHeld;clear hHeld;generalize w.drew=V0 at B0⊢;refine nO (i:=4) (by kernel_rfl) rfl (fun K' hK=> ?_);go_simp;refine(dense_Clone _ p l r F0 (HD.out.keep fun q hq=>B0.block q (HD.out.lt q hq)) h16).mono ?_;rintro e V1 ⟨p',F1,rfl,hd1,hF1,hb⟩;have B1:=B0.trans (hb.mono B0.size);refine hK.out _ _ (fun _ _=>B1) ?_;clear hK K'
  (try simp only [Act.put,zD,zE,zF])
  refine nO (i:=9) (by kernel_rfl) rfl (fun K' hK=> ?_);go_simp;refine(probe_Clone_nil _).mono ?_;rintro e V2 ⟨rfl,hb2⟩;have hd2:=LH (hd1.below hb2);have hF2:=LH (fun q hq=>Nat.le_trans B0.size (hF1 q hq));clear hd1 hF1;have B2:=B1.trans (hb2.mono B1.size);refine hK.out _ _ (fun _ _=>B2) ?_;clear hK K'
  (try simp only [Act.put,zD,zE,zF])
  refine nP 10 (.agg #[.pointer (some ⟨p',0,none⟩),.pointer none]) (h:= ?_)
  (try simp only [Act.put,zD,zE,zF])
  refine nO (i:=11) (by kernel_rfl) rfl (fun K' hK=> ?_);go_simp;have B3:=B2.alloc B2.size (.cells #[.pointer (some ⟨p',0,none⟩),.pointer none] 204);refine hK.out _ _ (fun _ _=>B3) ?_;clear hK K'
  (try simp only [Act.put,zD,zE,zF])
  refine nO (i:=12) (by kernel_rfl) rfl (fun K' hK=> ?_);go_simp;refine hK.out _ _ (fun _ _=>B3) ?_;clear hK K'
  (try simp only [Act.put,zD,zE,zF])
  refine nD (by kernel_rfl) ?_ _;clear hb hb2 B0 B1;have HB2:=LH B2;have HB3:=LH B3;clear B2 B3;go_wp2_with fail;go_ret;refine⟨V2.heap.size,footP V2.heap.size F1,rfl,⟨h1,h2,HF.out,p',F1,rfl,.inl ⟨rfl,h16,heap_alloc_new V2 _,hd2.out.below ((Below.refl _ _).alloc (Nat.le_refl _) _)⟩⟩,?_,HB3.out⟩;rintro q (rfl|hq)
  ·exact HB2.out.size
  ·exact hF2.out q hq
 ·skip
  have H:=LH hh;have Z:=LH (lB hh);have HD:=LH hd;clear hh hd hf
  go_enter Tryz.func185,Tryz.ntmps185
  go_upto_region 3 with fail;refine wp_region_N (fun W=>Below w.heap.size w W) [] (by kernel_rfl) (Below.drew (Below.refl _ _)) (fun hHeld=> ?_);refine nP 0 (.pointer (some ⟨g,0,none⟩)) (h:= ?_)
  (try simp only [Act.put,zD,zE,zF])
  refine nP 1 (.pointer (some ⟨g,0,none⟩)) (h:= ?_)
  (try simp only [Act.put,zD,zE,zF])
  refine nP 2 (.pointer (some ⟨g,0,none⟩)) (h:= ?_)
  (try simp only [Act.put,zD,zE,zF])
  refine nT 3 (.pointer none) (y:=Or.inl ⟨by rfl,fun W hW=>by have q1:=bC ((hW.block g Z.out).trans H.out);go_simp⟩) (s:=hHeld) (h:= ?_)
  (try simp only [Act.put,zD,zE,zF])
  refine nP 5 (.pointer (some ⟨g,0,none⟩)) (h:= ?_)
  (try simp only [Act.put,zD,zE,zF])
  refine nP 6 (.pointer (some ⟨g,0,none⟩)) (h:= ?_)
  (try simp only [Act.put,zD,zE,zF])
  refine nP 7 (.pointer (some ⟨g,1,none⟩)) (h:= ?_)
  (try simp only [Act.put,zD,zE,zF])
  refine nT 8 (.pointer (some ⟨p,0,none⟩)) (y:=Or.inl ⟨by rfl,fun W hW=>by have q1:=bC ((hW.block g Z.out).trans H.out);go_simp⟩) (s:=hHeld) (h:= ?_)
  (try simp only [Act.put,zD,zE,zF])
  have B0:=hHeld;clear hHeld;generalize w.drew=V0 at B0⊢;refine nO (i:=4) (by kernel_rfl) rfl (fun K' hK=> ?_);go_simp;refine(dense_Clone_nil _).mono ?_;rintro e V1 ⟨rfl,hb⟩;have B1:=B0.trans (hb.mono B0.size);refine hK.out _ _ (fun _ _=>B1) ?_;clear hK K'
  (try simp only [Act.put,zD,zE,zF])
  refine nO (i:=9) (by kernel_rfl) rfl (fun K' hK=> ?_);go_simp;refine(probe_Clone _ p l r F0 (HD.out.keep fun q hq=>B1.block q (HD.out.lt q hq))).mono ?_;rintro e V2 ⟨p',F1,rfl,hd1,hF1,hb2⟩;have hd2:=LH hd1;have hF2:=LH (fun q hq=>Nat.le_trans B1.size (hF1 q hq));clear hd1 hF1;have B2:=B1.trans (hb2.mono B1.size);refine hK.out _ _ (fun _ _=>B2) ?_;clear hK K'
  (try simp only [Act.put,zD,zE,zF])
  refine nP 10 (.agg #[.pointer none,.pointer (some ⟨p',0,none⟩)]) (h:= ?_)
  (try simp only [Act.put,zD,zE,zF])
  refine nO (i:=11) (by kernel_rfl) rfl (fun K' hK=> ?_);go_simp;have B3:=B2.alloc B2.size (.cells #[.pointer none,.pointer (some ⟨p',0,none⟩)] 204);refine hK.out _ _ (fun _ _=>B3) ?_;clear hK K'
  (try simp only [Act.put,zD,zE,zF])
  refine nO (i:=12) (by kernel_rfl) rfl (fun K' hK=> ?_);go_simp;refine hK.out _ _ (fun _ _=>B3) ?_;clear hK K'
  (try simp only [Act.put,zD,zE,zF])
  refine nD (by kernel_rfl) ?_ _;clear hb hb2 B0 B1;have HB2:=LH B2;have HB3:=LH B3;clear B2 B3;go_wp2_with fail;go_ret;refine⟨V2.heap.size,footP V2.heap.size F1,rfl,⟨h1,h2,HF.out,p',F1,rfl,.inr ⟨rfl,heap_alloc_new V2 _,hd2.out.below ((Below.refl _ _).alloc (Nat.le_refl _) _)⟩⟩,?_,HB3.out⟩;rintro q (rfl|hq)
  ·exact HB2.out.size
  ·exact hF2.out q hq
theorem digest_Clone (w:World) (g K l:Nat) (k:Int) (r:List Nd) (F:Nat→Prop) (h:DigAt w g K l k r F) :Calls Tryz.prog 120 #[.pointer (some ⟨g,0,none⟩)] w fun e w'=>
 ∃g' F',e=.returned (.pointer (some ⟨g',0,none⟩))∧DigAt w' g' K l k r F'∧(∀b,F' b→w.heap.size≤b)∧Below w.heap.size w w':=by
 obtain⟨hk1,hk2,p,F0,_,hh,hd⟩:=h;have H:=LH hh;have Z:=LH (lB hh);have HD:=LH hd;clear hh hd
 go_enter Tryz.func120,Tryz.ntmps120
 go_upto_region 3 with fail;refine wp_region_N (fun W=>Below w.heap.size w W) [] (by kernel_rfl) (Below.drew (Below.refl _ _)) (fun hHeld=> ?_);refine nP 0 (.pointer (some ⟨g,0,none⟩)) (h:= ?_)
 (try simp only [Act.put,zD,zE,zF])
 refine nP 1 (.pointer (some ⟨g,0,none⟩)) (h:= ?_)
 (try simp only [Act.put,zD,zE,zF])
 refine nP 2 (.pointer (some ⟨g,0,none⟩)) (h:= ?_)
 (try simp only [Act.put,zD,zE,zF])
 refine nT 3 (.agg #[.int .i64 k]) (y:=Or.inl ⟨by rfl,fun W hW=>by have q1:=bC ((hW.block g Z.out).trans H.out);go_simp⟩) (s:=hHeld) (h:= ?_)
 (try simp only [Act.put,zD,zE,zF])
 refine nP 4 (.pointer (some ⟨g,0,none⟩)) (h:= ?_)
 (try simp only [Act.put,zD,zE,zF])
 refine nP 5 (.pointer (some ⟨g,0,none⟩)) (h:= ?_)
 (try simp only [Act.put,zD,zE,zF])
 refine nP 6 (.pointer (some ⟨g,1,none⟩)) (h:= ?_)
 (try simp only [Act.put,zD,zE,zF])
 refine nP 7 (.pointer (some ⟨g,1,none⟩)) (h:= ?_)
 (try simp only [Act.put,zD,zE,zF])
 refine nT 8 (.pointer (some ⟨p,0,none⟩)) (y:=Or.inl ⟨by rfl,fun W hW=>by have q1:=bC ((hW.block g Z.out).trans H.out);go_simp⟩) (s:=hHeld) (h:= ?_)
 (try simp only [Act.put,zD,zE,zF])
 have B0:=hHeld;clear hHeld;generalize w.drew=V0 at B0⊢;refine nO (i:=9) (by kernel_rfl) rfl (fun K' hK=> ?_);go_simp;refine(pool_Clone _ p K l r F0 (HD.out.keep fun q hq=>B0.block q (HD.out.lt q hq))).mono ?_;rintro e V1 ⟨p',F1,rfl,hd1,hF1,hb⟩;have B1:=B0.trans (hb.mono B0.size);have hd2:=LH hd1;have hF2:=LH (fun q hq=>Nat.le_trans B0.size (hF1 q hq));clear hd1 hF1;refine hK.out _ _ (fun _ _=>B1) ?_;clear hK K'
 (try simp only [Act.put,zD,zE,zF])
 refine nP 10 (.agg #[.pointer (some ⟨p',0,none⟩)]) (h:= ?_)
 (try simp only [Act.put,zD,zE,zF])
 refine nP 11 (.agg #[.int .i64 k,.pointer (some ⟨p',0,none⟩)]) (h:= ?_)
 (try simp only [Act.put,zD,zE,zF])
 refine nO (i:=12) (by kernel_rfl) rfl (fun K' hK=> ?_);go_simp;have B3:=B1.alloc B1.size (.cells #[.int .i64 k,.pointer (some ⟨p',0,none⟩)] 121);refine hK.out _ _ (fun _ _=>B3) ?_;clear hK K'
 (try simp only [Act.put,zD,zE,zF])
 refine nO (i:=13) (by kernel_rfl) rfl (fun K' hK=> ?_);go_simp;refine hK.out _ _ (fun _ _=>B3) ?_;clear hK K'
 (try simp only [Act.put,zD,zE,zF])
 refine nD (by kernel_rfl) ?_ _;have HB2:=LH B1;have HB3:=LH B3;clear hb B0 B1 B3;go_wp2_with fail;go_ret;refine⟨V1.heap.size,footP V1.heap.size F1,rfl,⟨hk1,hk2,p',F1,rfl,heap_alloc_new V1 _,hd2.out.below ((Below.refl _ _).alloc (Nat.le_refl _) _)⟩,?_,HB3.out⟩;rintro q (rfl|hq)
 ·exact HB2.out.size
 ·exact hF2.out q hq
def readyS (s:Sen) :Bool:= !s.sent && (decide (s.heard=s.p.kids) || decide (s.p.wait≤s.ti))
def sentS (s:Sen) :Sen:={s with sent:=true}
def tickS (s:Sen) :Sen:={s with ti:=s.ti+1}
def tickedS (s:Sen) :Sen:=if s.ti<s.p.wait then tickS s else s
theorem sensor_Ready (w:World) (g dg:Nat) (s:Sen) (h:SenAt w g dg s) :Calls Tryz.prog 106 #[.pointer (some ⟨g,0,none⟩)] w fun e w'=>e=.returned (.bool (readyS s))∧Below w.heap.size w w':=by
 obtain⟨l,k,kd,⟨me,kids,wait⟩,ep,ti,heard,cover,sent⟩:=s;have cc:=bC h;have cf:=bF h;have zb:=lB h;unfold readyS;dsimp only at*;clear h
 cases sent
 ·by_cases h1:heard=kids
  ·have h1': ((heard:Int) == (kids:Int)) =true:=beq_iff_eq.2 (by omega)
   have hd:decide (heard=kids) =true:=by simpa using h1
   rw [hd];clear h1 hd
   go_enter Tryz.func106,Tryz.ntmps106
   go_upto_region 1 with fail;refine rX (by kernel_rfl) (by kernel_rfl) ?_
   repeat (go_big_quiet_step (fail))
   refine wpQuiet_nil ?_;intro w1 hb1;replace hb1:=bX hb1;have B1:Below w.heap.size w w1:=Below.then_ bE hb1;have s1:=B1.size;go_wp2_with fail;go_ret;exact⟨rfl,B1⟩
  ·have h1': ((heard:Int) == (kids:Int)) =false:=by simp;omega
   have hd:decide (heard=kids) =false:=by simpa using h1
   rw [hd];clear h1 hd
   go_enter Tryz.func106,Tryz.ntmps106
   go_upto_region 1 with fail;refine rX (by kernel_rfl) (by kernel_rfl) ?_
   repeat (go_big_quiet_step (fail))
   refine wpQuiet_nil ?_;intro w1 hb1;replace hb1:=bX hb1;have B1:Below w.heap.size w w1:=Below.then_ bE hb1;have s1:=B1.size;go_wp2_with fail;go_ret;exact⟨rfl,B1⟩
 ·go_enter Tryz.func106,Tryz.ntmps106
  go_upto_region 1 with fail;refine rX (by kernel_rfl) (by kernel_rfl) ?_
  repeat (go_big_quiet_step (fail))
  refine wpQuiet_nil ?_;intro w1 hb1;replace hb1:=bX hb1;have B1:Below w.heap.size w w1:=Below.then_ bE hb1;have s1:=B1.size;go_wp2_with fail;go_ret;exact⟨rfl,B1⟩
theorem SenAt.tick {w:World} {g dg:Nat} {s:Sen} (h:SenAt w g dg s) :SenAt (w.setCell ⟨g,7,none⟩ (.int .i64 (s.ti+1))) g dg (tickS s):=zH (i:=7) h _
theorem SenAt.toSent {w:World} {g dg:Nat} {s:Sen} (h:SenAt w g dg s) :SenAt (w.setCell ⟨g,10,none⟩ (.bool true)) g dg (sentS s):=zH (i:=10) h _
theorem SensAt.set {w:World} {g K l o dg:Nat} {s s':Sen} {r:List Nd} {F F0:Nat→Prop} {u:Value} (hF:F=footP g F0) (h1:SenAt (w.setCell ⟨g,o,none⟩ u) g dg s') (h2:SenAt w g dg s) (h3:s'.l=l) (h4:s'.kd=K) (h5:DigAt w dg K l s'.k r F0) (h6: ¬F0 g) :SensAt (w.setCell ⟨g,o,none⟩ u) g K l s' r F:=
 ⟨dg,F0,hF,h1,h3,h4,h5.keep fun b hb=>Below.heap_setCell _ _ _ _ (by rintro rfl;exact h6 hb),h6⟩
theorem sensor_Tick (w:World) (g K l:Nat) (s:Sen) (r:List Nd) (F:Nat→Prop) (h:SensAt w g K l s r F) (ht:s.ti≤9223372036854775806) (ht0:0≤s.ti) :Calls Tryz.prog 65 #[.pointer (some ⟨g,0,none⟩)] w fun e w'=>e=.returned (.tuple #[])∧SensTo w g K l (tickedS s) r F w':=by
 have HS:=LH h;obtain⟨dg,F0,hF,h1,h2,h3,h4,h5⟩:=h;have hw:wrap64 (s.ti+1) =s.ti+1:=by unfold wrap64;omega
 have cc:=bC h1;have cf:=bF h1;have zb:=lB h1;have H1:=LH h1
 have HX:Hid (∀W,Below w.heap.size w W→SensTo w g K l (tickS s) r F (W.setCell ⟨g,7,none⟩ (.int .i64 (s.ti+1)))):=LH fun W hb=>
  ⟨F,SensAt.set (s':=tickS s) hF (h1.below hb).tick (h1.below hb) h2 h3 (h4.below hb) h5,(Turn.of_below hb).setCell (.inl HS.out.own) _,Grow.refl⟩
 have HY:Hid (∀W,Below w.heap.size w W→SensTo w g K l s r F W):=LH fun W hb=>.below HS.out hb;clear h1 h2 h3 h4 h5 HS hF;unfold tickedS;by_cases hlt:s.ti<s.p.wait
 ·have hd:decide (s.ti<s.p.wait) =true:=by simpa using hlt
  rw [if_pos hlt];generalize tickS s=s' at HX⊢
  go_enter Tryz.func65,Tryz.ntmps65
  go_upto_region 0 with fail;refine rX (by kernel_rfl) (by kernel_rfl) ?_
  repeat (go_big_quiet_step (fail))
  refine wpQuiet_nil ?_;intro w1 hb1;replace hb1:=bX hb1;have B1:Below w.heap.size w w1:=Below.then_ bE hb1;have s1:=B1.size;have z1_0:g<w1.heap.size:=by have:=hb1.size;(try simp at this);omega
  have y1_0:g≤w1.heap.size:=Nat.le_of_lt z1_0;have c1_0:=czB hb1 (g);have f1_0:=fzB hb1 (g);have cc1:=bC (H1.out.below hb1);have B1':=LH B1;clear c1_0 cc;go_wp2_with fail
  go_end0
  exact⟨rfl,HX.out _ B1'.out⟩
 ·have hd:decide (s.ti<s.p.wait) =false:=by simpa using hlt
  rw [if_neg hlt]
  go_enter Tryz.func65,Tryz.ntmps65
  go_upto_region 0 with fail;refine rX (by kernel_rfl) (by kernel_rfl) ?_
  repeat (go_big_quiet_step (fail))
  refine wpQuiet_nil ?_;intro w1 hb1;replace hb1:=bX hb1;have B1:Below w.heap.size w w1:=Below.then_ bE hb1;have s1:=B1.size;have z1_0:g<w1.heap.size:=by have:=hb1.size;(try simp at this);omega
  have y1_0:g≤w1.heap.size:=Nat.le_of_lt z1_0;have c1_0:=czB hb1 (g);have f1_0:=fzB hb1 (g);have B1':=LH B1;go_wp2_with fail
  go_end0
  exact⟨rfl,HY.out _ B1'.out⟩
def DigestPost (K l:Nat) (k:Int) (r:List Nd) (w:World) (e:Ending) (w':World) :Prop:=
 ∃g' F',e=.returned (.pointer (some ⟨g',0,none⟩))∧DigAt w' g' K l k r F'∧(∀b,F' b→w.heap.size≤b)∧Below w.heap.size w w'
theorem sensor_Digest (w:World) (g K l:Nat) (s:Sen) (r:List Nd) (F:Nat→Prop) (h:SensAt w g K l s r F) :Calls Tryz.prog 55 #[.pointer (some ⟨g,0,none⟩)] w (DigestPost K l s.k r w):=by
 obtain⟨dg,F0,hF,h1,h2,h3,h4,h5⟩:=h;have cc:=bC h1;have cf:=bF h1;have zb:=lB h1;have HC:=LH (digest_Clone w dg K l s.k r F0 h4);unfold DigestPost;clear h1 h2 h3 h4 h5 hF
 go_enter Tryz.func55,Tryz.ntmps55
 go_wp2_with fail;refine HC.out.mono ?_;rintro e w1 ⟨g',F',rfl,hd,hF1,hb1⟩;have HD:=LH hd;have HF:=LH hF1;clear hd hF1;go_wp2_with fail;go_ret;exact⟨g',F',rfl,HD.out,HF.out,hb1⟩
def putErr (l:Nat) (s:Sen) (r:List Nd) (x c:Int) :Int:=if s.sent=true then 18 else insErr l r x c
def PutTo (l:Nat) (s:Sen) (r:List Nd) (x c:Int) (r':List Nd) :Prop:=(s.sent=true∧r'=r)∨(s.sent=false∧InsTo l s.k r x c r')
theorem SensAt.dig {w w':World} {g K l dg:Nat} {s:Sen} {r:List Nd} {F F0:Nat→Prop} (hF:F=footP g F0) (h1:SenAt w g dg s) (h2:s.l=l) (h3:s.kd=K) (h5: ¬F0 g) (h:DigTo w dg K l s.k r F0 w') :SensTo w g K l s r F w':=by
 obtain⟨F',d1,d2,d3⟩:=h;subst hF;have hg: ¬F' g:=fun hf=>(d3 g hf).elim h5 fun h=>by have:=lB h1;omega
 refine⟨footP g F',⟨dg,F',rfl,d2.keep h1 h5,h2,h3,d1,hg⟩,d2.mono fun b _ hb=>.inr hb,?_⟩;rintro b (rfl|hb)
 ·exact .inl (.inl rfl)
 ·exact(d3 b hb).imp .inr id
def SPutPost (g K l:Nat) (s:Sen) (r:List Nd) (F:Nat→Prop) (x c:Int) (w:World) (e:Ending) (w':World) :Prop:=
 ∃r',e=.returned (.int .i64 (putErr l s r x c))∧PutTo l s r x c r'∧SensTo w g K l s r' F w'
theorem SPutPost.of {g K l:Nat} {s:Sen} {r r':List Nd} {F:Nat→Prop} {x c:Int} {w w':World} (h:PutTo l s r x c r') (h2:SensTo w g K l s r' F w') :SPutPost g K l s r F x c w (.returned (.int .i64 (putErr l s r x c))) w':=⟨r',rfl,h,h2⟩
theorem sensor_Put (w:World) (g K l:Nat) (s:Sen) (r:List Nd) (F:Nat→Prop) (h:SensAt w g K l s r F) (hn:r.length≤67108864) (x c:Int) :
 Calls Tryz.prog 45 #[.pointer (some ⟨g,0,none⟩),.int .i64 x,.int .i64 c] w (SPutPost g K l s r F x c w):=by
 have HS:=LH h;obtain⟨dg,F0,hF,h1,h2,h3,h4,h5⟩:=h;have cc:=bC h1;have cf:=bF h1;have zb:=lB h1;have HI:=LH (digest_Insert w dg K l s.k r F0 h4 hn x c);have HX:Hid (∀W r',DigTo w dg K l s.k r' F0 W→SensTo w g K l s r' F W):=LH fun W r' hd=>SensAt.dig hF h1 h2 h3 h5 hd;have HP:Hid (∀W r',PutTo l s r x c r'→SensTo w g K l s r' F W→SPutPost g K l s r F x c w (.returned (.int .i64 (putErr l s r x c))) W):=LH fun W r' h1 h2=>.of h1 h2;have HP0:Hid (s.sent=true→putErr l s r x c=18∧PutTo l s r x c r):=LH fun h=>⟨by unfold putErr;rw [if_pos h],.inl ⟨h,rfl⟩⟩;have HP1:Hid (s.sent=false→putErr l s r x c=insErr l r x c∧∀r',InsTo l s.k r x c r'→PutTo l s r x c r'):=LH fun h=>⟨by unfold putErr;rw [if_neg (by simp [h])],fun r' h2=>.inr ⟨h,h2⟩⟩;generalize insErr l r x c=n at HI HP1;generalize putErr l s r x c=n' at HP HP0 HP1;clear h1 h2 h3 h4 h5 hF;obtain⟨b,hb⟩ : ∃b,b=s.sent:=⟨_,rfl⟩;rw [←hb] at cc HP0 HP1;clear hb
 cases b
 ·go_enter Tryz.func45,Tryz.ntmps45
  go_wp2_with fail;refine HI.out.mono ?_;rintro e w1 ⟨r',rfl,hi,hd⟩;have HD:=LH (HX.out _ _ hd);have HI2:=LH hi;clear hd hi;go_wp2_with fail;have HF:=LH (HP.out _ r' ((HP1.out trivial).2 r' HI2.out) HD.out);rw [(HP1.out trivial).1] at HF;exact bR (v:=.int .i64 n) (by simp only [results,Tryz.results45];go_simp) rfl HF.out
 ·go_enter Tryz.func45,Tryz.ntmps45
  go_wp2_with fail;have HF:=LH (HP.out _ r (HP0.out trivial).2 (.below HS.out (w':=w) bE));rw [(HP0.out trivial).1] at HF;exact bR (v:=.int .i64 18) (by simp only [results,Tryz.results45];go_simp) rfl HF.out
theorem vary_Put0 (w:World) (base:Nat) (v:Value) (ho:Own w base 3 encZ v []) :Calls Tryz.prog 216 #[v] w fun e w'=>e=.returned (.tuple #[.string ⟨#[]⟩,.int .i64 0])∧Below w.heap.size w w':=by
 obtain⟨A,c,rfl,_⟩:=ho.form;clear ho;simp only [List.length_nil];have hcv: ∀W,(convert 28 9 (.slice none 0 0)).run Tryz.prog W=.ok (.string ⟨#[]⟩) W:=fun W=>by kernel_rfl
 go_enter Tryz.func216,Tryz.ntmps216
 go_wp2_with fail
 go_loopw [4,9] (fun u j wr=>j=.int .i64 (0:Nat)∧u=.slice none 0 0∧Below w.heap.size w wr) (fun _ j _=>0)
 case atStart=>exact⟨rfl,rfl,Below.refl _ _⟩
 case round=>
  obtain⟨rfl,rfl,hB⟩:=hrel;have HB:=LH hB;clear hB;have hc:=hcv wr;go_wp2_with fail
  all_goals exact bR (v:=.tuple #[.string ⟨#[]⟩,.int .i64 0]) (by simp only [results,Tryz.results216];go_simp) rfl ⟨rfl,HB.out⟩
theorem vary_PutC (w:World) (base:Nat) (v:Value) (L:List Int) (ho:Own w base 3 encZ v L) (hi: ∀x∈L,i64 x∧0≤x) (hl:L.length≤65536) :
 Calls Tryz.prog 216 #[v] w fun e w'=>e=.returned (.tuple #[.string ⟨(putB L).toArray⟩,.int .i64 0])∧Below w.heap.size w w':=by
 cases L with
 |nil=>exact vary_Put0 w base v ho
 |cons x L=>
  refine(vary_Put w base v (x :: L) ho (fun y hy=>(hi y hy).1) hl (by simp)).mono ?_;rintro e w' ⟨⟨t,he,ht⟩,hb⟩;have hal: (x :: L).all (fun y=>decide (0≤y)) =true:=List.all_eq_true.2 fun y hy=>by simpa using (hi y hy).2
  rw [if_pos hal] at he;exact⟨by rw [he,ht hal],hb⟩
structure TwoL (B:Nat) (w3:World) (U1:Value) (L1:List Int) (U2:Value) (L2:List Int) (W:World) :Prop where
 o1:Own W B 3 encZ U1 L1
 o2:Own W B 3 encZ U2 L2
 sep:Sep U1 U2
 b:Below B w3 W
 size:B≤W.heap.size
section
variable {B:Nat} {w3:World} {U1 U1' U2 U2':Value} {L1 L1' L2 L2':List Int} {W W':World}
theorem TwoL.below (h:TwoL B w3 U1 L1 U2 L2 W) (hb:Below W.heap.size W W') :TwoL B w3 U1 L1 U2 L2 W':=⟨h.o1.below hb,h.o2.below hb,h.sep,h.b.trans (hb.mono h.size),Nat.le_trans h.size hb.size⟩
theorem TwoL.alloc (h:TwoL B w3 U1 L1 U2 L2 W) (o:Obj) :TwoL B w3 U1 L1 U2 L2 (W.alloc o):=h.below ((Below.refl _ _).alloc (Nat.le_refl _) o)
theorem TwoL.drew (h:TwoL B w3 U1 L1 U2 L2 W) :TwoL B w3 U1 L1 U2 L2 W.drew:=h.below (Below.refl _ _).drew
theorem TwoL.app1 (h:TwoL B w3 U1 L1 U2 L2 W) (hg:W.grownBy W' U1.ownBlock) (ho:Own W' B 3 encZ U1' L1') (hl:U1'.ownBlock=U1.ownBlock∨U1'.ownBlock=some W.heap.size) (hb:Below B W W') :TwoL B w3 U1' L1' U2 L2 W':=
 ⟨ho,h.o2.kept hg (by
  cases e:U2.ownBlock with
  |none=>exact .inl rfl
  |some g=>exact .inr fun he=>h.sep g (by rw [←he]) e),fun g h1 h2=>by
   rcases hl with hl|hl
   ·exact h.sep g (hl ▸ h1) h2
   ·rw [hl] at h1;cases h1;exact absurd (h.o2.lt _ h2).2 (Nat.lt_irrefl _),h.b.trans hb,Nat.le_trans h.size hb.size⟩
theorem TwoL.swap (h:TwoL B w3 U1 L1 U2 L2 W) :TwoL B w3 U2 L2 U1 L1 W:=⟨h.o2,h.o1,h.sep.symm,h.b,h.size⟩
theorem TwoL.app2 (h:TwoL B w3 U1 L1 U2 L2 W) (hg:W.grownBy W' U2.ownBlock) (ho:Own W' B 3 encZ U2' L2') (hl:U2'.ownBlock=U2.ownBlock∨U2'.ownBlock=some W.heap.size) (hb:Below B W W') :TwoL B w3 U1 L1 U2' L2' W':=(h.swap.app1 hg ho hl hb).swap
end
structure OffB (x:Nat) (o:Obj) (U1 U2:Value) (W:World) :Prop where
 h:W.heap[x]? =some o
 n1:U1.ownBlock≠some x
 n2:U2.ownBlock≠some x
section
variable {x:Nat} {o:Obj} {U1 U1' U2 U2':Value} {W W':World}
theorem OffB.below (h:OffB x o U1 U2 W) (hb:Below W.heap.size W W') :OffB x o U1 U2 W':=⟨bB h.h hb,h.n1,h.n2⟩
theorem OffB.alloc (h:OffB x o U1 U2 W) (p:Obj) :OffB x o U1 U2 (W.alloc p):=h.below ((Below.refl _ _).alloc (Nat.le_refl _) p)
theorem OffB.drew (h:OffB x o U1 U2 W) :OffB x o U1 U2 W.drew:=⟨h.h,h.n1,h.n2⟩
theorem OffB.app1 (h:OffB x o U1 U2 W) (hg:W.grownBy W' U1.ownBlock) (hl:U1'.ownBlock=U1.ownBlock∨U1'.ownBlock=some W.heap.size) :OffB x o U1' U2 W':=
 ⟨blk_grown_not h.h hg h.n1,fun e=>by
  rcases hl with hl|hl
  ·exact h.n1 (hl ▸ e)
  ·rw [hl] at e;cases e;exact absurd (lB h.h) (Nat.lt_irrefl _),h.n2⟩
theorem OffB.swap (h:OffB x o U1 U2 W) :OffB x o U2 U1 W:=⟨h.h,h.n2,h.n1⟩
theorem OffB.app2 (h:OffB x o U1 U2 W) (hg:W.grownBy W' U2.ownBlock) (hl:U2'.ownBlock=U2.ownBlock∨U2'.ownBlock=some W.heap.size) :OffB x o U1 U2' W':=(h.swap.app1 hg hl).swap
theorem OffB.new {B:Nat} {w3:World} {L1 L2:List Int} (h:TwoL B w3 U1 L1 U2 L2 W) (cs:Array Value) (t:TypeId) :OffB W.heap.size (.cells cs t (0,0)) U1 U2 (W.alloc (.cells cs t)):=
 ⟨heap_alloc_new W _,h.o1.not_at _ (Nat.le_refl _),h.o2.not_at _ (Nat.le_refl _)⟩
end
theorem sl_one {W:World} {b t:Nat} {x:Int} (h:W.heap[b]? =some (.cells #[.int .i64 x] t (0,0))) :Sl W W.heap.size encZ (some ⟨b,0,none⟩) [x]:=sl_cell (by rw [bC h];rfl) (lB h)
theorem back1 (W:World) (a:UInt8) (n:Nat) (hn:n=W.heap.size) :
 (convert 28 9 (.slice (some ⟨n,0,none⟩) 1 1)).run Tryz.prog (W.alloc (.cells #[.int .u8 (a.toNat:Int)] 5)) =.ok (.string ⟨[a].toArray⟩) (W.alloc (.cells #[.int .u8 (a.toNat:Int)] 5)):=by
 subst hn;refine run_convert_bytes_back (P:=Tryz.prog) _ 28 9 5 ⟨W.heap.size,0,none⟩ 1 [a] Tryz.underlying28 Tryz.underlying5 Tryz.underlying9 ?_;intro j hj;rw [show Addr.add ⟨W.heap.size,0,none⟩ j= ⟨W.heap.size,j,none⟩ by unfold Addr.add;split <;> simp_all];rw [World.cell?_alloc_mark];simp only [List.length_cons,List.length_nil] at hj
 match j,hj with
 |0,_=>rfl
structure WireF (l:Nat) (k:Int) (r:List Nd) :Prop where
 up:risesOk (r.map (·.1)) =true
 ids: ∀x∈r.map (·.1),i64 x
 cts: ∀x∈r.map (·.2),i64 x∧0≤x
 hd: ∀x∈ [k,sumR r],i64 x∧0≤x
 l1: (putB [k,sumR r]).length≤18
 l2: (risesB (r.map (·.1))).length≤9+9*r.length
 l3: (putB (r.map (·.2))).length≤9*r.length
theorem steps_ok: ∀{L:List Int} {p:Int},(p :: L).Pairwise (· < ·)→(List.zipWith (fun x q=>x - q) L (p :: L)).all (fun d=>decide (0<d)) =true:=by
 intro L
 induction L with
 |nil=>intro p _;simp
 |cons x L ih=>
  intro p h;obtain⟨h1,h2⟩:=List.pairwise_cons.1 h;have:=h1 x (by simp);simp only [List.zipWith_cons_cons,List.all_cons,Bool.and_eq_true,decide_eq_true_eq];exact⟨by omega,ih h2⟩
theorem steps_le: ∀{L:List Int} {p:Int},0≤p→(p :: L).Pairwise (· < ·)→(∀x∈L,x≤9223372036854775807)→∀d∈List.zipWith (fun x q=>x - q) L (p :: L),d≤9223372036854775807:=by
 intro L
 induction L with
 |nil=>intro p _ _ _ d hd;simp at hd
 |cons x L ih=>
  intro p hp h hx d hd;obtain⟨h1,h2⟩:=List.pairwise_cons.1 h;have:=h1 x (by simp);have:=hx x (by simp);simp only [List.zipWith_cons_cons,List.mem_cons] at hd;rcases hd with rfl|hd
  ·omega
  ·exact ih (by omega) h2 (fun y hy=>hx y (by simp [hy])) d hd
theorem WireF.of {l:Nat} {k:Int} {r:List Nd} (hl:1≤l∧l≤48) (hf:Fits l r) (hk:1≤k) (hk2:k≤1048576) (hn:r.length≤60000) :WireF l k r:=by
 have hs0:=sumR_nonneg hf.roll;have hs1:=hf.sum
 have hup: ((0:Int) :: r.map (·.1)).Pairwise (· < ·):=by
  refine List.pairwise_cons.2 ⟨?_,?_⟩
  ·intro x hx
   obtain⟨y,hy,rfl⟩:=List.mem_map.1 hx;have:=(hf.roll.2 y hy).1;omega
  ·rw [List.pairwise_map];exact hf.roll.1
 have hi: ∀x∈r.map (·.1),i64 x:=by
  intro x hx;obtain⟨y,hy,rfl⟩:=List.mem_map.1 hx;have h1:=isNode_lt (hf.nodes hl y hy);have h2:=pow_48 hl.2
  constructor <;> omega
 have hc: ∀x∈r.map (·.2),i64 x∧0≤x:=by
  intro x hx;obtain⟨y,hy,rfl⟩:=List.mem_map.1 hx;have h1:=(hf.roll.2 y hy).2;have h2:=getR_le_sum hf.roll y.1;rw [getR_mem hf.roll hy] at h2;exact⟨by constructor <;> omega,by omega⟩
 have hh: ∀x∈ [k,sumR r],i64 x∧0≤x:=by
  intro x hx;simp only [List.mem_cons,List.not_mem_nil,or_false] at hx;rcases hx with rfl|rfl
  ·exact⟨by constructor <;> omega,by omega⟩
  ·exact⟨by constructor <;> omega,by omega⟩
 refine⟨steps_ok hup,hi,hc,hh,?_,?_,?_⟩
 ·exact putB_len (L:= [k,sumR r]) fun x hx=>(hh x hx).1.2
 ·have h1:=putB_len (L:=stepD (r.map (·.1))) (steps_le (Int.le_refl 0) hup fun x hx=>(hi x hx).2)
  have h2:=oneB_le (n:=(r.map (·.1)).length) (by simp;omega);unfold risesB;rw [stepD_len] at h1;simp only [List.length_append,List.length_map] at h1 h2⊢;omega
 ·have:=putB_len (L:=r.map (·.2)) fun x hx=>(hc x hx).1.2
  simpa using this
theorem map_take {r:List Nd} {q:Nat} {y:Nd} (h:q<r.length) (hy:r[q] =y) : (r.take (q+1)).map (·.1) = (r.take q).map (·.1) ++ [y.1]∧(r.take (q+1)).map (·.2) = (r.take q).map (·.2) ++ [y.2]:=by
 rw [List.take_succ_eq_append_getElem h,hy];simp
theorem wire_Encode (w:World) (g K l:Nat) (k:Int) (r:List Nd) (F:Nat→Prop) (h:DigAt w g K l k r F) (hn:r.length≤60000) :
 Calls Tryz.prog 170 #[.pointer (some ⟨g,0,none⟩)] w fun e w'=>e=.returned (.tuple #[.string ⟨(wireT l k r).toArray⟩,.int .i64 0])∧Below w.heap.size w w':=by
 have HD:=LH h;have hll:=h.l_le;have hk:1≤k∧k≤1048576:=by obtain⟨p,F0,_,_,_,_,h1,h2⟩:=h.parts;exact⟨h1,h2⟩
 have HC:=LH (digest_Conf w g K l k r F h);have HF:=LH h.fits;obtain⟨G,hG⟩ : ∃G,G=wireT l k r:=⟨_,rfl⟩;rw [←hG];have HG:=LH hG;clear h hG
 go_enter Tryz.func170,Tryz.ntmps170
 go_wp2_with fail;refine HC.out.mono ?_;rintro e w1 ⟨rfl,hb1⟩;have X2:=LH (heap_alloc_new w1 (.cells #[.int .i64 l,.int .i64 k,.int .i64 K] 24));have B2:Hid (Below w.heap.size w (w1.alloc (.cells #[.int .i64 l,.int .i64 k,.int .i64 K] 24))):=LH bE;have D2:=LH (HD.out.below B2.out);clear HC hb1;go_upto_region 5 with fail;generalize w1.alloc (.cells #[.int .i64 l,.int .i64 k,.int .i64 K] 24) =w2 at X2 B2 D2⊢;go_wp2_with fail;refine(digest_Nodes w2 g K l k r F D2.out (by omega)).mono ?_;rintro e w3 ⟨v,rfl,ho,hb3⟩;obtain⟨A,cap,rfl,_⟩:=ho.form;have O3:=LH ho;have X3:=LH (bB X2.out hb3);have D3:=LH (D2.out.below hb3);have B3:=LH (Below.then_ B2.out hb3);obtain⟨B,hBe⟩ : ∃B,B=w3.heap.size:=⟨_,rfl⟩;have HBe:=LH hBe;have TS:Hid (TwoL B w3 (.slice none 0 0) [] (.slice none 0 0) [] w3):=LH ⟨Own.nil _ _ _ _,Own.nil _ _ _ _,(fun g h1=>by cases h1),Below.refl _ _,by omega⟩;clear ho hb3 D2 X2 B2 hBe;go_wp2_with fail
 go_loopw [5,6,22] (fun V1 V2 j wr=>∃q:Nat,q≤r.length∧j=.int .i64 q∧TwoL B w3 V1 ((r.take q).map (·.1)) V2 ((r.take q).map (·.2)) wr) (fun _ _ j _=>r.length - (intOf j).toNat)
 case atStart=>exact⟨0,Nat.zero_le _,rfl,by simpa using TS.out⟩
 case round=>
  obtain⟨q,hq,rfl,hT⟩:=hrel;have KT:=LH hT;have hBw:=hT.size;have OR:=LH (O3.out.sl.keep (B':=wr.heap.size) (by have:=HBe.out;omega) fun p hp=>hT.b.cell (by have:=HBe.out;omega));clear hT;by_cases hlt:q<r.length
  ·have hqi: (q:Int) < (r.length:Int):=by omega
   obtain⟨b,off,rfl,hb,hc⟩:=OR.out.at_ hlt;have d0:=hc 0 (.int .i64 r[q].1) rfl;have d1:=hc 1 (.int .i64 r[q].2) rfl;simp only [Nat.add_zero] at d0;obtain⟨y,hy⟩ : ∃y,r[q] =y:=⟨_,rfl⟩;have HT1:=LH (map_take hlt hy).1;have HT2:=LH (map_take hlt hy).2;rw [hy] at d0 d1;have T0:=LH (KT.out.alloc (.cells #[.int .i64 y.1,.int .i64 y.2] 216));have N0:=LH (OffB.new KT.out #[.int .i64 y.1,.int .i64 y.2] 216);clear hc hy;go_upto_region 8 with fail;generalize wr.alloc (.cells #[.int .i64 y.1,.int .i64 y.2] 216) =Wa at T0 N0⊢;replace T0:=LH T0.out.drew;replace N0:=LH N0.out.drew;refine wp_region_noPanic ?_;refine wp_region_N (fun w'=>w'.heap[wr.heap.size]? =some (.cells #[.int .i64 y.1,.int .i64 y.2] 216 (0,0))) [] (by kernel_rfl) (N0.out.h) (fun hHeld=> ?_);generalize Wa.drew=Wd at T0 N0 hHeld⊢;refine nP 0 (u5) (h:= ?_)
   (try simp only [zA,zB,zC,Act.put,zD,zE,zF])
   refine nP 1 (Value.pointer (some ⟨wr.heap.size,0,none⟩)) (h:= ?_)
   (try simp only [zA,zB,zC,Act.put,zD,zE,zF])
   refine nT 2 (Value.int .i64 y.1) (y:=Or.inl ⟨by rfl,fun W hW=>by have q1:=bC hW;have q2:=lB hW;go_simp⟩) (s:=N0.out.h) (h:= ?_)
   (try simp only [zA,zB,zC,Act.put,zD,zE,zF])
   refine nP 5 (u6) (h:= ?_)
   (try simp only [zA,zB,zC,Act.put,zD,zE,zF])
   refine nP 6 (Value.pointer (some ⟨wr.heap.size,1,none⟩)) (h:= ?_)
   (try simp only [zA,zB,zC,Act.put,zD,zE,zF])
   refine nT 7 (Value.int .i64 y.2) (y:=Or.inl ⟨by rfl,fun W hW=>by have q1:=bC hW;have q2:=lB hW;go_simp⟩) (s:=N0.out.h) (h:= ?_)
   (try simp only [zA,zB,zC,Act.put,zD,zE,zF])
   clear hHeld;refine wpAnyN_two (i:=3) (k:=8) (by kernel_rfl) rfl rfl (fun K hK=> ?_) (fun K hK=> ?_)
   ·skip
    go_simp;refine hK.out _ _ (fun _ hS=>bB hS ((Below.refl _ _).alloc (Nat.le_refl _) _)) ?_;clear hK K
    (try simp only [zA,zB,zC,Act.put,zD,zE,zF])
    have L1:=LH (OffB.new T0.out #[.int .i64 y.1] 3);have T1:=LH (T0.out.alloc (.cells #[.int .i64 y.1] 3));have N1:=LH (N0.out.alloc (.cells #[.int .i64 y.1] 3));have hs1:Wd.heap.size< (Wd.alloc (.cells #[.int .i64 y.1] 3)).heap.size:=by simp
    generalize Wd.alloc (.cells #[.int .i64 y.1] 3) =W1 at L1 T1 N1 hs1⊢;refine wpAnyN_two (i:=4) (k:=8) (by kernel_rfl) rfl rfl (fun K hK=> ?_) (fun K hK=> ?_)
    ·skip
     refine step_app (o:=⟨some 30,_,_,_,_,_⟩) tyZ (by rfl) _ _ (by rfl) encZ B u5 ((r.take q).map (·.1)) (by rfl) T1.out.o1 _ 1 [y.1] _ (by rfl) (sl_one L1.out.h) (by simp only [List.length_map,List.length_take,List.length_append,List.length_cons,List.length_nil];omega) (by simp only [maxLen,List.length_map,List.length_take,List.length_append,List.length_cons,List.length_nil];omega) T1.out.size ?_;intro v2 W2 ho2 hg2 hl2 hb2 hn2;refine hK.out _ _ (fun _ hS=>blk_grown_not hS hg2 N1.out.n1) ?_;clear hK K
     (try simp only [zA,zB,zC,Act.put,zD,zE,zF])
     have T2:=LH (T1.out.app1 hg2 ho2 hl2 hb2);have N2:=LH (N1.out.app1 hg2 hl2);clear ho2 hg2 hl2 hb2 hn2;refine nO (i:=8) (by kernel_rfl) rfl (fun K hK=> ?_);go_simp;refine hK.out _ _ (fun _ hS=>bB hS ((Below.refl _ _).alloc (Nat.le_refl _) _)) ?_;clear hK K
     (try simp only [zA,zB,zC,Act.put,zD,zE,zF])
     have L3:=LH (OffB.new T2.out #[.int .i64 y.2] 3);have T3:=LH (T2.out.alloc (.cells #[.int .i64 y.2] 3));have N3:=LH (N2.out.alloc (.cells #[.int .i64 y.2] 3));have M3:=LH (L1.out.alloc (.cells #[.int .i64 y.2] 3));have hs3:W2.heap.size< (W2.alloc (.cells #[.int .i64 y.2] 3)).heap.size:=by simp
     generalize W2.alloc (.cells #[.int .i64 y.2] 3) =W3 at L3 T3 N3 M3 hs3⊢;refine nO (i:=9) (by kernel_rfl) rfl (fun K hK=> ?_);refine step_app (o:=⟨some 35,_,_,_,_,_⟩) tyZ (by rfl) _ _ (by rfl) encZ B u6 ((r.take q).map (·.2)) (by rfl) T3.out.o2 _ 1 [y.2] _ (by rfl) (sl_one L3.out.h) (by simp only [List.length_map,List.length_take,List.length_append,List.length_cons,List.length_nil];omega) (by simp only [maxLen,List.length_map,List.length_take,List.length_append,List.length_cons,List.length_nil];omega) T3.out.size ?_;intro v4 W4 ho4 hg4 hl4 hb4 hn4;refine hK.out _ _ (fun _ hS=>blk_grown_not hS hg4 N3.out.n2) ?_;clear hK K
     (try simp only [zA,zB,zC,Act.put,zD,zE,zF])
     have T4:=LH (T3.out.app2 hg4 ho4 hl4 hb4);have N4:=LH (N3.out.app2 hg4 hl4);clear ho4 hg4 hl4 hb4 hn4;refine nP 10 (v2) (h:= ?_)
     (try simp only [zA,zB,zC,Act.put,zD,zE,zF])
     refine nO (i:=11) (by kernel_rfl) rfl (fun K hK=> ?_);go_simp;refine hK.out _ _ (fun _ _=>N4.out.h) ?_;clear hK K
     (try simp only [zA,zB,zC,Act.put,zD,zE,zF])
     refine nD (by kernel_rfl) ?_ _;refine NoPanic.normal ?_;have HE:=LH T4.out;obtain⟨A1,c1,e1,_⟩:=HE.out.o1.form;obtain⟨A2,c2,e2,_⟩:=HE.out.o2.form;go_wp2_with fail;go_roundw
     case rel=>exact⟨q+1,by omega,by go_num,by rw [HT1.out,HT2.out];exact HE.out⟩
     case measure=>simp [intOf];omega
    ·skip
     go_simp;refine hK.out _ _ (fun _ hS=>bB hS ((Below.refl _ _).alloc (Nat.le_refl _) _)) ?_;clear hK K
     (try simp only [zA,zB,zC,Act.put,zD,zE,zF])
     have L5:=LH (OffB.new T1.out #[.int .i64 y.2] 3);have T5:=LH (T1.out.alloc (.cells #[.int .i64 y.2] 3));have N5:=LH (N1.out.alloc (.cells #[.int .i64 y.2] 3));have M5:=LH (L1.out.alloc (.cells #[.int .i64 y.2] 3));have hs5:W1.heap.size< (W1.alloc (.cells #[.int .i64 y.2] 3)).heap.size:=by simp
     generalize W1.alloc (.cells #[.int .i64 y.2] 3) =W5 at L5 T5 N5 M5 hs5⊢;refine nO (i:=4) (by kernel_rfl) rfl (fun K hK=> ?_);refine step_app (o:=⟨some 30,_,_,_,_,_⟩) tyZ (by rfl) _ _ (by rfl) encZ B u5 ((r.take q).map (·.1)) (by rfl) T5.out.o1 _ 1 [y.1] _ (by rfl) (sl_one M5.out.h) (by simp only [List.length_map,List.length_take,List.length_append,List.length_cons,List.length_nil];omega) (by simp only [maxLen,List.length_map,List.length_take,List.length_append,List.length_cons,List.length_nil];omega) T5.out.size ?_;intro v6 W6 ho6 hg6 hl6 hb6 hn6;refine hK.out _ _ (fun _ hS=>blk_grown_not hS hg6 N5.out.n1) ?_;clear hK K
     (try simp only [zA,zB,zC,Act.put,zD,zE,zF])
     have T6:=LH (T5.out.app1 hg6 ho6 hl6 hb6);have N6:=LH (N5.out.app1 hg6 hl6);have M6:=LH (L5.out.app1 hg6 hl6);clear ho6 hg6 hl6 hb6 hn6;refine nO (i:=9) (by kernel_rfl) rfl (fun K hK=> ?_);refine step_app (o:=⟨some 35,_,_,_,_,_⟩) tyZ (by rfl) _ _ (by rfl) encZ B u6 ((r.take q).map (·.2)) (by rfl) T6.out.o2 _ 1 [y.2] _ (by rfl) (sl_one M6.out.h) (by simp only [List.length_map,List.length_take,List.length_append,List.length_cons,List.length_nil];omega) (by simp only [maxLen,List.length_map,List.length_take,List.length_append,List.length_cons,List.length_nil];omega) T6.out.size ?_;intro v7 W7 ho7 hg7 hl7 hb7 hn7;refine hK.out _ _ (fun _ hS=>blk_grown_not hS hg7 N6.out.n2) ?_;clear hK K
     (try simp only [zA,zB,zC,Act.put,zD,zE,zF])
     have T7:=LH (T6.out.app2 hg7 ho7 hl7 hb7);have N7:=LH (N6.out.app2 hg7 hl7);clear ho7 hg7 hl7 hb7 hn7;refine nP 10 (v6) (h:= ?_)
     (try simp only [zA,zB,zC,Act.put,zD,zE,zF])
     refine nO (i:=11) (by kernel_rfl) rfl (fun K hK=> ?_);go_simp;refine hK.out _ _ (fun _ _=>N7.out.h) ?_;clear hK K
     (try simp only [zA,zB,zC,Act.put,zD,zE,zF])
     refine nD (by kernel_rfl) ?_ _;refine NoPanic.normal ?_;have HE:=LH T7.out;obtain⟨A1,c1,e1,_⟩:=HE.out.o1.form;obtain⟨A2,c2,e2,_⟩:=HE.out.o2.form;go_wp2_with fail;go_roundw
     case rel=>exact⟨q+1,by omega,by go_num,by rw [HT1.out,HT2.out];exact HE.out⟩
     case measure=>simp [intOf];omega
   ·skip
    go_simp;refine hK.out _ _ (fun _ hS=>bB hS ((Below.refl _ _).alloc (Nat.le_refl _) _)) ?_;clear hK K
    (try simp only [zA,zB,zC,Act.put,zD,zE,zF])
    have L8:=LH (OffB.new T0.out #[.int .i64 y.2] 3);have T8:=LH (T0.out.alloc (.cells #[.int .i64 y.2] 3));have N8:=LH (N0.out.alloc (.cells #[.int .i64 y.2] 3));have hs8:Wd.heap.size< (Wd.alloc (.cells #[.int .i64 y.2] 3)).heap.size:=by simp
    generalize Wd.alloc (.cells #[.int .i64 y.2] 3) =W8 at L8 T8 N8 hs8⊢;refine nO (i:=3) (by kernel_rfl) rfl (fun K hK=> ?_);go_simp;refine hK.out _ _ (fun _ hS=>bB hS ((Below.refl _ _).alloc (Nat.le_refl _) _)) ?_;clear hK K
    (try simp only [zA,zB,zC,Act.put,zD,zE,zF])
    have L9:=LH (OffB.new T8.out #[.int .i64 y.1] 3);have T9:=LH (T8.out.alloc (.cells #[.int .i64 y.1] 3));have N9:=LH (N8.out.alloc (.cells #[.int .i64 y.1] 3));have M9:=LH (L8.out.alloc (.cells #[.int .i64 y.1] 3));have hs9:W8.heap.size< (W8.alloc (.cells #[.int .i64 y.1] 3)).heap.size:=by simp
    generalize W8.alloc (.cells #[.int .i64 y.1] 3) =W9 at L9 T9 N9 M9 hs9⊢;refine nO (i:=4) (by kernel_rfl) rfl (fun K hK=> ?_);refine step_app (o:=⟨some 30,_,_,_,_,_⟩) tyZ (by rfl) _ _ (by rfl) encZ B u5 ((r.take q).map (·.1)) (by rfl) T9.out.o1 _ 1 [y.1] _ (by rfl) (sl_one L9.out.h) (by simp only [List.length_map,List.length_take,List.length_append,List.length_cons,List.length_nil];omega) (by simp only [maxLen,List.length_map,List.length_take,List.length_append,List.length_cons,List.length_nil];omega) T9.out.size ?_;intro v10 W10 ho10 hg10 hl10 hb10 hn10;refine hK.out _ _ (fun _ hS=>blk_grown_not hS hg10 N9.out.n1) ?_;clear hK K
    (try simp only [zA,zB,zC,Act.put,zD,zE,zF])
    have T10:=LH (T9.out.app1 hg10 ho10 hl10 hb10);have N10:=LH (N9.out.app1 hg10 hl10);have M10:=LH (M9.out.app1 hg10 hl10);clear ho10 hg10 hl10 hb10 hn10;refine nO (i:=9) (by kernel_rfl) rfl (fun K hK=> ?_);refine step_app (o:=⟨some 35,_,_,_,_,_⟩) tyZ (by rfl) _ _ (by rfl) encZ B u6 ((r.take q).map (·.2)) (by rfl) T10.out.o2 _ 1 [y.2] _ (by rfl) (sl_one M10.out.h) (by simp only [List.length_map,List.length_take,List.length_append,List.length_cons,List.length_nil];omega) (by simp only [maxLen,List.length_map,List.length_take,List.length_append,List.length_cons,List.length_nil];omega) T10.out.size ?_;intro v11 W11 ho11 hg11 hl11 hb11 hn11;refine hK.out _ _ (fun _ hS=>blk_grown_not hS hg11 N10.out.n2) ?_;clear hK K
    (try simp only [zA,zB,zC,Act.put,zD,zE,zF])
    have T11:=LH (T10.out.app2 hg11 ho11 hl11 hb11);have N11:=LH (N10.out.app2 hg11 hl11);clear ho11 hg11 hl11 hb11 hn11;refine nP 10 (v10) (h:= ?_)
    (try simp only [zA,zB,zC,Act.put,zD,zE,zF])
    refine nO (i:=11) (by kernel_rfl) rfl (fun K hK=> ?_);go_simp;refine hK.out _ _ (fun _ _=>N11.out.h) ?_;clear hK K
    (try simp only [zA,zB,zC,Act.put,zD,zE,zF])
    refine nD (by kernel_rfl) ?_ _;refine NoPanic.normal ?_;have HE:=LH T11.out;obtain⟨A1,c1,e1,_⟩:=HE.out.o1.form;obtain⟨A2,c2,e2,_⟩:=HE.out.o2.form;go_wp2_with fail;go_roundw
    case rel=>exact⟨q+1,by omega,by go_num,by rw [HT1.out,HT2.out];exact HE.out⟩
    case measure=>simp [intOf];omega
  ·obtain rfl:q=r.length:=by omega
   rw [List.take_length] at KT;have hTb:Below w3.heap.size w3 wr:=HBe.out ▸ KT.out.b;have X4:=LH (bB X3.out hTb);have X5:=LH (show wr.drew.heap[w1.heap.size]? =_ from X4.out);have D5:=LH ((D3.out.below hTb).below (w':=wr.drew) bE);have B5:=LH ((Below.then_ B3.out hTb).drew);obtain⟨A1,c1,rfl,_⟩:=KT.out.o1.form;obtain⟨A2,c2,rfl,_⟩:=KT.out.o2.form;have O51:=LH (KT.out.o1.drew);have O52:=LH (KT.out.o2.drew);simp only [List.length_map] at O51 O52;have HW:=LH (WireF.of hll HF.out hk.1 hk.2 hn);have hlw:=HW.out.l1;have hlr:=HW.out.l2;have hlc:=HW.out.l3
   have HPt:Hid (∀W n,W.heap.size=n→Calls Tryz.prog 216 #[.slice (some ⟨n,0,none⟩) 2 2] (W.alloc (.cells #[.int .i64 k,.int .i64 (sumR r)] 3)) fun e w'=>e=.returned (.tuple #[.string ⟨(putB [k,sumR r]).toArray⟩,.int .i64 0])∧Below W.heap.size W w'):=LH (fun W n hn=>by
    subst hn;refine(vary_PutC _ _ _ [k,sumR r] (Own.lit W encZ [k,sumR r] 3 (Nat.le_refl _) (by simp [maxLen])) HW.out.hd (by simp)).mono ?_;rintro e w' ⟨he,hb⟩;exact⟨he,((Below.refl W.heap.size W).alloc (Nat.le_refl _) _).trans (hb.mono (by simp))⟩)
   have HRi:=LH (fun W h=>vary_Rises W B (.slice A1 (r.map (·.1)).length c1) (r.map (·.1)) h HW.out.ids (by simp;omega) HW.out.up);have HPc:=LH (fun W h=>vary_PutC W B (.slice A2 (r.map (·.2)).length c2) (r.map (·.2)) h HW.out.cts (by simp;omega));obtain⟨a,ha⟩ : ∃a,a=UInt8.ofNat l:=⟨_,rfl⟩;have hal: (a.toNat:Int) = (l:Int):=by rw [ha,UInt8.toNat_ofNat'];omega
   have hg:=HG.out;unfold wireT at hg;rw [←ha] at hg;obtain⟨P1,hP1⟩ : ∃P1,P1=putB [k,sumR r]:=⟨_,rfl⟩;obtain⟨R1,hR1⟩ : ∃R1,R1=risesB (r.map (·.1)):=⟨_,rfl⟩;obtain⟨C1,hC1⟩ : ∃C1,C1=putB (r.map (·.2)):=⟨_,rfl⟩;rw [←hP1] at HPt hlw hg;rw [←hR1] at HRi hlr hg;rw [←hC1] at HPc hlc hg;have hc1:=fun W=>run_string_add_lists (P:=Tryz.prog) W [68,87,80,1] [a] (by simp) (by simp);obtain⟨U1,hU1⟩ : ∃U1:List UInt8,U1= [68,87,80,1] ++ [a]:=⟨_,rfl⟩;have lU1:U1.length=5:=by rw [hU1];rfl
   rw [←hU1] at hc1 hg;have hc2:=fun W=>run_string_add_lists (P:=Tryz.prog) W U1 P1 (by omega) (by omega);obtain⟨U2,hU2⟩ : ∃U2,U2=U1 ++ P1:=⟨_,rfl⟩;have lU2:U2.length≤23:=by rw [hU2,List.length_append];omega
   rw [←hU2] at hc2 hg;have hc3:=fun W=>run_string_add_lists (P:=Tryz.prog) W U2 R1 (by omega) (by omega);obtain⟨U3,hU3⟩ : ∃U3,U3=U2 ++ R1:=⟨_,rfl⟩;have lU3:U3.length≤32+9*r.length:=by rw [hU3,List.length_append];omega
   rw [←hU3] at hc3 hg;have hc4:=fun W=>run_string_add_lists (P:=Tryz.prog) W U3 C1 (by omega) (by omega);obtain⟨U4,hU4⟩ : ∃U4,U4=U3 ++ C1:=⟨_,rfl⟩;have lU4:U4.length≤8000000:=by rw [hU4,List.length_append];omega
   rw [←hU4] at hc4 hg;have HSe:=LH (fun W=>seal_Seal W U4 lU4);have hcv:=fun W=>back1 W a W.heap.size rfl;rw [hal] at hcv;clear hal;rw [←hg] at HSe;simp only [List.length_map] at HRi HPc;clear hg hP1 hR1 hC1 hU1 hU2 hU3 hU4 lU1 lU2 lU3 lU4 hlw hlr hlc HW ha KT hTb OR hBw X3 D3 B3;go_upto_region 10 with fail;refine wp_region_noPanic ?_;refine wp_region_N (fun w'=>w'.heap[w1.heap.size]? =some (.cells #[.int .i64 l,.int .i64 k,.int .i64 K] 24 (0,0))) [] (by kernel_rfl) (X4.out) (fun hHeld=> ?_);generalize wr.drew=Wd at X5 D5 B5 O51 O52 hHeld⊢;refine nP 0 (Value.pointer (some ⟨w1.heap.size,1,none⟩)) (h:= ?_)
   (try simp only [zA,zB,zC,Act.put,zD,zE,zF])
   refine nT 1 (Value.int .i64 k) (y:=Or.inl ⟨by rfl,fun W hW=>by have q1:=bC hW;have q2:=lB hW;go_simp⟩) (s:=X5.out) (h:= ?_)
   (try simp only [zA,zB,zC,Act.put,zD,zE,zF])
   refine nP 2 (Value.pointer (some ⟨g,0,none⟩)) (h:= ?_)
   (try simp only [zA,zB,zC,Act.put,zD,zE,zF])
   refine nO (i:=3) (by kernel_rfl) rfl (fun K hK=> ?_);go_simp;refine(digest_N _ g _ l k r F D5.out).mono ?_;rintro e w5 ⟨rfl,hb5⟩;have X6:=LH (bB X5.out hb5);have B6:=LH (Below.then_ B5.out hb5);have O61:=LH (O51.out.below hb5);have O62:=LH (O52.out.below hb5);clear hb5;refine hK.out _ _ (fun _ _=>X6.out) ?_;clear hK K
   (try simp only [zA,zB,zC,Act.put,zD,zE,zF])
   refine nO (i:=4) (by kernel_rfl) rfl (fun K hK=> ?_);go_simp;go_simp;refine hK.out _ _ (fun _ hS=>bB hS ((Below.refl _ _).alloc (Nat.le_refl _) _)) ?_;clear hK K
   (try simp only [zA,zB,zC,Act.put,zD,zE,zF])
   refine nO (i:=5) (by kernel_rfl) rfl (fun K hK=> ?_);go_simp;refine(HPt.out w5 _ rfl).mono ?_;rintro e w6 ⟨rfl,hb6⟩;have X7:=LH (bB X6.out hb6);have B7:=LH (Below.then_ B6.out hb6);have O71:=LH (O61.out.below hb6);have O72:=LH (O62.out.below hb6);clear hb6;refine hK.out _ _ (fun _ _=>X7.out) ?_;clear hK K
   (try simp only [zA,zB,zC,Act.put,zD,zE,zF])
   refine nP 6 (Value.tuple #[.string ⟨P1.toArray⟩,.int .i64 0]) (h:= ?_)
   (try simp only [zA,zB,zC,Act.put,zD,zE,zF])
   refine nP 7 (Value.string ⟨P1.toArray⟩) (h:= ?_)
   (try simp only [zA,zB,zC,Act.put,zD,zE,zF])
   refine nP 8 (Value.int .i64 0) (h:= ?_)
   (try simp only [zA,zB,zC,Act.put,zD,zE,zF])
   refine nP 9 (Value.string ⟨P1.toArray⟩) (h:= ?_)
   (try simp only [zA,zB,zC,Act.put,zD,zE,zF])
   refine nO (i:=10) (by kernel_rfl) rfl (fun K hK=> ?_);go_simp;refine hK.out _ _ (fun _ _=>X7.out) ?_;clear hK K
   (try simp only [zA,zB,zC,Act.put,zD,zE,zF])
   refine nD (by kernel_rfl) ?_ _;refine NoPanic.normal ?_;clear O61 O62 O51 O52 X4 X5 X6 B5 B6 D5;go_wp2_with fail;refine(HRi.out _ O71.out).mono ?_;rintro e w8 ⟨rfl,hb8⟩;have X8:=LH (bB X7.out hb8);have B8:=LH (Below.then_ B7.out hb8);have O82:=LH (O72.out.below hb8);clear hb8 X7 B7 O71 O72;go_wp2_with fail;refine(HPc.out _ O82.out).mono ?_;rintro e w9 ⟨rfl,hb9⟩;have X9:=LH (bB X8.out hb9);have B9:=LH (Below.then_ B8.out hb9);have c9:=bC X9.out;have z9:=lB X9.out;clear hb9 X8 B8 O82;go_wp2_with fail;refine(HSe.out _).mono ?_;rintro e wa ⟨rfl,hba⟩
   have Ba:Hid (Below w.heap.size w wa):=LH (by
    have B9:=B9.out;exact Below.then_ bE hba)
   clear hba;go_wp2_with fail;exact bR (v:=.tuple #[.string ⟨G.toArray⟩,.int .i64 0]) (by simp only [results,Tryz.results170];go_simp) rfl ⟨rfl,Ba.out⟩
end Go.Proofs.YtmdidmclfbfmiaaGreatDoor
