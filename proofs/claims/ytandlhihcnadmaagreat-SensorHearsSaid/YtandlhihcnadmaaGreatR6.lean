/-
  Texts of this proof, one behind the other: Press, Zone, Ref12R, Ref13C, Ref13I, Ref13J, Ref13D, Ref14L, Vary, Rises, VaryLaw, Seal, Seal2, Crew, Letter, ReadLaw, Sensor, HearLaw, Ref14M, OfLaw, OpenSide, Ref22.
-/
import Derived.Deep.LoopGhost
import Derived.Laws.BitsLemmas
import Derived.Laws.IdiomStrings
import Derived.Laws.Concat
import Derived.RegionTactic
import Derived.ChangeAlike
import Derived.Test.YtandlhihcnadmaaGreatR1
import Derived.Test.YtandlhihcnadmaaGreatR2
import Derived.Test.YtandlhihcnadmaaGreatR3
import Derived.Test.YtandlhihcnadmaaGreatR4
import Derived.Test.YtandlhihcnadmaaGreatR5
set_option linter.unusedVariables false
set_option linter.unusedSimpArgs false
set_option maxRecDepth 100000
set_option maxHeartbeats 16000000
namespace Go.Proofs.YtandlhihcnadmaaGreat
open Go.ChangeShapes Go.WideShapes Go.ChangeAt Go.RowKit
theorem deep_le {l:Nat} {r:List Nd} (h:Fits l r) (hl:l≤48) :deepR r≤48*r.length:=by
 have h1: ∀x∈r,x.1.toNat.log2≤48:=fun x hx=>by
  have h2:=h.lt x hx;have h3:=(h.roll.2 x hx).1
  have h4:x.1.toNat<2^ (l+1):=by
   have: ((2^ (l+1) :Nat) :Int) =2*2^l:=by push_cast;omega
   omega
  have:=(Nat.log2_lt (by omega)).2 h4;omega
 clear h;unfold deepR
 induction r with
 |nil=>simp
 |cons x r ih=>
  have:=ih fun y hy=>h1 y (by simp [hy]);have:=h1 x (by simp);simp only [List.map_cons,List.sum_cons,List.length_cons];omega
structure RunS (w:World) (ga gm g K l nb:Nat) (F:Nat→Prop) (s:List Nd) (L:List Int) (c:Nat) (Fp FA:Nat→Prop) (W:World) :Prop where
 a:AgAt W ga gm L FA
 p:PoolAt W g K l s Fp
 apart: ∀b,Fp b→¬FA b
 n:W.heap[nb]? =some (.cells #[.int .i64 c] 3 (0,0))
 np: ¬Fp nb
 na: ¬FA nb
 fa: ∀b,FA b→w.heap.size≤b
 gp:Grow w F Fp
 t:Turn (fun b=>F b∨b=nb) w W
section
variable {w:World} {ga gm g K l nb:Nat} {F:Nat→Prop} {s s':List Nd} {L L':List Int} {c:Nat} {Fp FA FA':Nat→Prop} {W W':World}
theorem RunS.below (h:RunS w ga gm g K l nb F s L c Fp FA W) (hb:Below W.heap.size W W') :RunS w ga gm g K l nb F s L c Fp FA W':=
 ⟨h.a.below hb,h.p.below hb,h.apart,bB h.n hb,h.np,h.na,h.fa,h.gp,h.t.more hb⟩
theorem RunS.ag (h:RunS w ga gm g K l nb F s L c Fp FA W) (ha:AgAt W' ga gm L' FA') (ht:Turn FA W W') (hg:Grow W FA FA') :RunS w ga gm g K l nb F s L' c Fp FA' W':=by
 have lp:=h.p.lt;refine⟨ha,h.p.keep fun b hb=>ht.block b (lp b hb) (h.apart b hb),fun b hb hf=> ?_,ht.keep h.n h.na,h.np,fun hf=> ?_,fun b hb=> ?_,h.gp,?_⟩
 ·rcases hg b hf with hf|hf
  ·exact h.apart b hb hf
  ·have:=lp b hb;omega
 ·rcases hg _ hf with hf|hf
  ·exact h.na hf
  ·have:=lB h.n;omega
 ·rcases hg b hb with hf|hf
  ·exact h.fa b hf
  ·exact Nat.le_trans h.t.size hf
 ·exact h.t.trans ht fun b hb=>.inr (h.fa b hb)
theorem RunS.pool (h:RunS w ga gm g K l nb F s L c Fp FA W) (hp:PoolTo W g K l s' Fp W') : ∃Fp',RunS w ga gm g K l nb F s' L c Fp' FA W':=by
 obtain⟨Fp',h1,h2,h3⟩:=hp;have la:=h.a.lt;refine⟨Fp',h.a.keep fun b hb=>h2.block b (la b hb) fun hf=>h.apart b hf hb,h1,fun b hb hf=> ?_,h2.keep h.n h.np,fun hf=> ?_,h.na,h.fa,h.gp.trans h3 h.t.size,?_⟩
 ·rcases h3 b hb with hb|hb
  ·exact h.apart b hb hf
  ·have:=la b hf;omega
 ·rcases h3 _ hf with hf|hf
  ·exact h.np hf
  ·have:=lB h.n;omega
 ·exact h.t.trans h2 fun b hb=>(h.gp b hb).imp .inl id
theorem RunS.count (h:RunS w ga gm g K l nb F s L c Fp FA W) :RunS w ga gm g K l nb F s L (c+1) Fp FA (W.setCell ⟨nb,0,none⟩ (.int .i64 (c+1:Nat))):=by
 have k: ∀b,b≠nb→(W.setCell ⟨nb,0,none⟩ (.int .i64 (c+1:Nat))).heap[b]? =W.heap[b]? :=fun b hb=>Below.heap_setCell _ _ _ _ (by simpa using hb);refine⟨h.a.keep fun b hb=>k b (by rintro rfl;exact h.na hb),h.p.keep fun b hb=>k b (by rintro rfl;exact h.np hb),h.apart,?_,h.np,h.na,h.fa,h.gp,h.t.setCell (.inl (.inr rfl)) _⟩;simp [World.setCell,Array.getElem?_modify,h.n]
end
theorem press_Run1 (W:World) (nb c:Nat) (id:Int) (h:W.heap[nb]? =some (.cells #[.int .i64 c] 3 (0,0))) (hc:c≤4611686018427387904) :
 Calls Tryz.prog 174 #[.int .i64 id,.pointer (some ⟨nb,0,none⟩)] W fun e w'=>e=.returned (.tuple #[])∧w'=W.setCell ⟨nb,0,none⟩ (.int .i64 (c+1:Nat)):=by
 have c0:=bC h;have f0:=bF h;have z0:=lB h;clear h
 go_enter Tryz.func174,Tryz.ntmps174
 go_wp2_with fail
 go_end0
 exact⟨rfl,by congr 1⟩
theorem enters_Run1: ∀args W,(callFunc 174 args).run Tryz.prog W=.ok (.enter 174 args) W:=enters_of Tryz.func174 (by kernel_rfl) rfl
def RunPost (g K l:Nat) (r:List Nd) (most:Int) (nb:Nat) (F:Nat→Prop) (w:World) (e:Ending) (w':World) :Prop:=
 ∃(ps:List Int) (s:List Nd) (Fp:Nat→Prop),e=.returned (.tuple #[])∧RunTo l most r ps s∧ps.length≤48*r.length∧PoolAt w' g K l s Fp∧Grow w F Fp∧¬Fp nb∧Turn (fun b=>F b∨b=nb) w w'∧w'.heap[nb]? =some (.cells #[.int .i64 ps.length] 3 (0,0))
theorem press_run (w:World) (g K l:Nat) (r:List Nd) (F:Nat→Prop) (hP:PoolAt w g K l r F) (hr:r.length≤67108864) (k:Int) (h1:1≤k) (h2:k≤1048576) (nb:Nat) (hn:w.heap[nb]? =some (.cells #[.int .i64 0] 3 (0,0))) (hnF: ¬F nb) :
 Calls Tryz.prog 173 #[.pointer (some ⟨g,0,none⟩),.int .i64 k,.func (.func 174) #[] #[.pointer (some ⟨nb,0,none⟩)]] w (RunPost g K l r (sumR r / k) nb F w):=by
 have eg:=enters_Run1;have hs0:=sumR_nonneg hP.fits.roll;have hs1:=hP.fits.sum;have hll:=hP.l_le;have hdl:=deep_le hP.fits hll.2;have HRl:=LH hP.fits.roll;have HP:=LH hP;have HT:=LH (fun W h=>pool_Total W g K l r F h);have HC:=LH (fun W=>fold_Cap W (sumR r) k hs0 (by omega) h1 (by omega));have HPa:=LH (fun W h=>fold_Parents W g K l r F h hr);generalize sumR r / k=most at HC⊢;generalize sumR r=n at HC HT hs0 hs1;have HN:=LH hn;have HNF:=LH hnF;clear hP hs0 hs1 hn hnF
 go_enter Tryz.func173,Tryz.ntmps173
 go_wp2_with fail;refine(HT.out _ HP.out).mono ?_;rintro e w1 ⟨rfl,hb1⟩;have B1:=LH hb1;clear hb1;go_wp2_with fail;refine(HC.out _).mono ?_;rintro e w2 ⟨rfl,hb2⟩;have B2:=LH (Below.then_ B1.out hb2);clear hb2;go_wp2_with fail;refine(HPa.out _ (HP.out.below B2.out)).mono ?_;rintro e w3 ⟨v,O,rfl,ho,hd,hol,hb3⟩;obtain⟨A,cap,rfl,_⟩:=ho.form;have S3:=LH ho.sl
 have hO49: ∀x∈O,x≤9223372036854775807:=fun x hx=>by
  have h3:=(hd.mem x).2 (.inl hx);obtain⟨y,hy,rfl⟩:=List.mem_map.1 ((putAll_mem _ _).1 h3).2;have h4:=isNode_lt (HP.out.fits.nodes hll y hy);have h5:=pow_48 hll.2;omega
 have hO49': ∀x∈O,x≤562949953421312:=fun x hx=>by
  have h3:=(hd.mem x).2 (.inl hx);obtain⟨y,hy,rfl⟩:=List.mem_map.1 ((putAll_mem _ _).1 h3).2;have h4:=isNode_lt (HP.out.fits.nodes hll y hy);have h5:=pow_48 hll.2;omega
 have hwt: ∀x∈r,1≤x.1 / 2→x.1 / 2∈putAll O:=fun x hx h3=>by
  refine(putAll_mem _ _).2 ⟨h3,?_⟩;have:x.1 / 2∈putAll (halves r):=(putAll_mem _ _).2 ⟨h3,List.mem_map.2 ⟨x,hx,rfl⟩⟩;rcases (hd.mem _).1 this with h|h
  ·exact h
  ·simp at h
 have hlenO:=putAll_len O;have HW:=LH (Waits.start (l:=l) (most:=most) hwt HRl.out);have HWt:=LH (putAll_wait O);have HV:Hid (∀x∈putAll O,x≤562949953421312):=LH fun x hx=>hO49' x ((putAll_mem _ _).1 hx).2;have HNw:=LH (fun W h=>fold_New W A cap O h hO49 (by omega));have B3:=LH (Below.then_ B2.out hb3);clear ho hd hb3 hO49 hO49' hwt;generalize putAll O=L0 at HW HWt HV HNw hlenO;go_wp2_with fail;refine(HNw.out _ S3.out).mono ?_;rintro e w4 ⟨ga,gm,FA,rfl,hA4,hF4,hb4⟩;have B4:=LH (Below.then_ B3.out hb4)
 have R4:Hid (RunS w ga gm g K l nb F r L0 0 F FA w4):=LH
  ⟨hA4,HP.out.below B4.out,fun b hb hf=>by have:=HP.out.lt b hb;have:=hF4 b hf;have:=B3.out.size;omega,bB HN.out B4.out,HNF.out,fun hf=>by have:=lB HN.out;have:=hF4 nb hf;have:=B3.out.size;omega,
   fun b hb=>Nat.le_trans B3.out.size (hF4 b hb),Grow.refl,.of_below B4.out⟩
 clear hA4 hF4 hb4 S3 HNw;have hn0:4*deepR r+L0.length≤20000000000:=by omega
 have hfR:=HP.out.fits;go_wp2_with fail
 go_loopg [] 20000000000 (fun kk wr=>∃(s:List Nd) (L:List Int) (ps:List Int) (Fp FA:Nat→Prop),RunS w ga gm g K l nb F s L ps.length Fp FA wr∧WaitL L∧Waits l most s L∧(∀x∈L,x≤562949953421312)∧Folded l most r s∧(∀qs t,RunTo l most s qs t→RunTo l most r (ps ++ qs) t)∧ps.length+deepR s≤deepR r∧4*deepR s+L.length≤kk∧kk≤20000000000)
 case atStart=>exact⟨r,L0, [],F,FA,R4.out,HWt.out,HW.out,HV.out,.refl _,fun qs t h=>h,by simp,hn0,Nat.le_refl _⟩
 case round=>
  obtain⟨s,L,ps,Fp,FA,hR,hw,hW,hV,hFo,hTo,hdp,hk1,hk2⟩:=hrel;have R:=LH hR;have HWt:=LH hw;have HW:=LH hW;have HV:=LH hV;have HF:=LH hFo;have HTo:=LH hTo;have hfs:=hFo.fits hfR;have hls:=hFo.len hfR;obtain⟨Dm,hAS,_⟩:=hR.a;have HLn:=LH (ag_Len _ ga gm _ L Dm FA hAS);have HD:=LH hdp;clear hR hw hW hV hFo hTo hAS hdp;go_wp2_with fail;refine HLn.out.mono ?_;rintro e w5 ⟨rfl,hb5⟩;have R5:=LH (R.out.below hb5);clear hb5 R HLn
  cases L with
  |nil=>
   simp only [List.length_nil];have hE:=LH (HTo.out [] s (Waits.done HW.out));rw [List.append_nil] at hE;go_wp2_with fail
   go_end0
   have hd1:=HD.out;exact⟨ps,s,Fp,rfl,hE.out,by omega,R5.out.p,R5.out.gp,R5.out.np,R5.out.t,R5.out.n⟩
  |cons x L=>
   have hxL:x∉L:=(List.nodup_cons.1 HWt.out.once).1;have hpv: ∀y∈x :: L,1≤y∧y≤9223372036854775807:=fun y hy=>⟨HWt.out.pos y hy,by have:=HV.out y hy;omega⟩;have hx1:1≤x:=HWt.out.pos x (by simp);have hx2:x≤562949953421312:=HV.out x (by simp);have hlL:L.length+1+4*deepR s≤gk:=by simp only [List.length_cons] at hk1;omega
   have HPop:=LH (fun W h=>ag_Pop W ga gm x L FA h hxL hpv (by omega));have hl1: (x :: L).length=L.length+1:=by simp
   have hpl: (popH (x :: L)).length=L.length:=(popH_perm x L).length_eq;have HPW:=LH HWt.out.pop;have HPV:Hid (∀y∈popH (x :: L),1≤y∧y≤562949953421312):=LH fun y hy=>⟨HWt.out.pos y (List.mem_cons_of_mem _ ((popH_perm x L).mem_iff.1 hy)),HV.out y (List.mem_cons_of_mem _ ((popH_perm x L).mem_iff.1 hy))⟩;rw [hl1];clear hl1 hk1 hpv hxL;go_wp2_with fail;refine(HPop.out _ R5.out.a).mono ?_;rintro e w6 ⟨rfl,hA6,hT6⟩;have R6:=LH (R5.out.ag hA6 hT6 Grow.refl);clear hA6 hT6 R5;go_wp2_with fail;refine(fold_Ready _ g K l s Fp R6.out.p x most).mono ?_;rintro e w7 ⟨rfl,hb7⟩;have R7:=LH (R6.out.below hb7);clear hb7 R6
   cases hy:readyR l s x most
   ·have HSk:=LH (HW.out.skip hy)
    clear hy;generalize popH (x :: L) =M at HSk HPW HPV R7 hpl;go_wp2_with fail
    go_roundg (gk - 1)
    case measure=>omega
    case rel=>exact⟨s,M,ps,Fp,FA,R7.out,HPW.out,HSk.out,fun y hy=>(HPV.out y hy).2,HF.out,HTo.out,HD.out,by omega,by omega⟩
   ·have HFr:=LH (HW.out.first HWt.out hy)
    have HWf:=LH (HW.out.fold hfs.roll hy);have hdf:=deep_fold hfs.roll hy;have hkid:=kids_iff.1 (ready_iff.1 hy).1;have hx3:x<281474976710656:=by have:=pow_48 hll.2;omega
    have HDo:=LH (fun W h=>fold_Do W g K l s Fp h x most hy (by omega));have HFo:Hid (Folded l most r (foldR s x)):=LH (.step x HF.out hy)
    have HTo2:Hid (∀qs t,RunTo l most (foldR s x) qs t→RunTo l most r ((ps ++ [x]) ++ qs) t):=LH fun qs t h=>by
     have:=HTo.out _ _ (.step HFr.out h)
     simpa using this
    have hpl1: (ps ++ [x]).length=ps.length+1:=by simp
    have hd1:=HD.out;clear hkid hy HW HWt HF HTo HV;generalize foldR s x=s2 at HWf HDo HFo HTo2 hdf;generalize popH (x :: L) =M at HWf HPW HPV R7 hpl;go_wp2_with fail;refine(HDo.out _ R7.out.p).mono ?_;rintro e w8 ⟨⟨n8,rfl⟩,hp8⟩;obtain⟨Fp8,R8'⟩:=R7.out.pool hp8;have R8:=LH R8';clear R7 hp8 R8' HDo;go_wp2_with fail;refine(press_Run1 _ nb ps.length x R8.out.n (by omega)).mono ?_;rintro e w9 ⟨rfl,rfl⟩;have R9:=LH R8.out.count;generalize w8.setCell ⟨nb,0,none⟩ (.int .i64 (ps.length+1:Nat)) =w9 at R9⊢;clear R8;have HP1:=LH (fun W h=>ag_Put W ga gm M FA h (2*x) (by omega) (fun y hy=>⟨(HPV.out y hy).1,by have:=(HPV.out y hy).2;omega⟩) (by omega))
    have V1:Hid (∀y∈putW M (2*x),1≤y∧y≤562949953421312):=LH fun y hy=>by
     rcases (putW_mem _ _ _).1 hy with h| ⟨_,rfl⟩
     ·exact HPV.out y h
     ·exact⟨by omega,by omega⟩
    have W1:=LH (HPW.out.put (2*x));have L1:=putW_len M (2*x);go_wp2_with fail;refine(HP1.out _ R9.out.a).mono ?_;rintro e wa ⟨t1,F1,rfl,hA,hT,hG⟩;have RA:=LH (R9.out.ag hA hT hG);clear hA hT hG R9 HP1;generalize putW M (2*x) =M1 at RA V1 W1 L1 HWf;have HP2:=LH (fun W h=>ag_Put W ga gm M1 F1 h (2*x+1) (by omega) (fun y hy=>⟨(V1.out y hy).1,by have:=(V1.out y hy).2;omega⟩) (by omega))
    have V2:Hid (∀y∈putW M1 (2*x+1),1≤y∧y≤562949953421312):=LH fun y hy=>by
     rcases (putW_mem _ _ _).1 hy with h| ⟨_,rfl⟩
     ·exact V1.out y h
     ·exact⟨by omega,by omega⟩
    have W2:=LH (W1.out.put (2*x+1));have L2:=putW_len M1 (2*x+1);go_wp2_with fail;refine(HP2.out _ RA.out.a).mono ?_;rintro e wb ⟨t2,F2,rfl,hA,hT,hG⟩;have RB:=LH (RA.out.ag hA hT hG);clear hA hT hG RA HP2;generalize putW M1 (2*x+1) =M2 at RB V2 W2 L2 HWf;have HP3:=LH (fun W h=>ag_Put W ga gm M2 F2 h (x / 2) (by omega) (fun y hy=>⟨(V2.out y hy).1,by have:=(V2.out y hy).2;omega⟩) (by omega))
    have V3:Hid (∀y∈putW M2 (x / 2),1≤y∧y≤562949953421312):=LH fun y hy=>by
     rcases (putW_mem _ _ _).1 hy with h| ⟨_,rfl⟩
     ·exact V2.out y h
     ·exact⟨by omega,by omega⟩
    have W3:=LH (W2.out.put (x / 2));have L3:=putW_len M2 (x / 2);go_wp2_with fail;refine(HP3.out _ RB.out.a).mono ?_;rintro e wc ⟨t3,F3,rfl,hA,hT,hG⟩;have RC:=LH (RB.out.ag hA hT hG);clear hA hT hG RB HP3;generalize putW M2 (x / 2) =M3 at RC V3 W3 L3 HWf;go_wp2_with fail
    go_roundg (gk - 1)
    case measure=>omega
    case rel=>exact⟨s2,M3,ps ++ [x],Fp8,F3,by rw [hpl1];exact RC.out,W3.out,HWf.out,fun y hy=>(V3.out y hy).2,HFo.out,HTo2.out,by rw [hpl1];omega,by omega,by omega⟩
def PressPost (g K l:Nat) (r:List Nd) (most:Int) (F:Nat→Prop) (w:World) (e:Ending) (w':World) :Prop:=
 ∃(ps:List Int) (s:List Nd),e=.returned (.tuple #[.int .i64 ps.length,.int .i64 0])∧RunTo l most r ps s∧ps.length≤48*r.length∧PoolTo w g K l s F w'
theorem press_Run (w:World) (g K l:Nat) (r:List Nd) (F:Nat→Prop) (hP:PoolAt w g K l r F) (hr:r.length≤67108864) (k:Int) (h1:1≤k) (h2:k≤1048576) :
 Calls Tryz.prog 132 #[.pointer (some ⟨g,0,none⟩),.int .i64 k] w (PressPost g K l r (sumR r / k) F w):=by
 have HP:=LH hP;have HR:=LH (fun W h nb hn hf=>press_run W g K l r F h hr k h1 h2 nb hn hf);generalize sumR r / k=most at HR⊢;clear hP
 go_enter Tryz.func132,Tryz.ntmps132
 go_wp2_with fail;refine(press_wrong _ g k h1 h2).mono ?_;rintro e w1 ⟨rfl,hb1⟩;have B1:=LH (hb1.trans (((Below.refl w1.heap.size w1).alloc (Nat.le_refl _) (.cells #[.int .i64 0] 3)).mono hb1.size));have X1:=LH (heap_alloc_new w1 (.cells #[.int .i64 0] 3));have s1:=hb1.size;have P1:=LH (HP.out.below B1.out);clear hb1;have NF:Hid (¬F w1.heap.size):=LH fun hf=>by have:=HP.out.lt _ hf;omega
 go_wp2_with fail;refine(HR.out _ P1.out _ X1.out NF.out).mono ?_;rintro e w2 ⟨ps,s,Fp,rfl,hR,hpl,hP2,hG,_,hT,hn⟩
 have HE:Hid (RunTo l most r ps s∧ps.length≤48*r.length∧PoolTo w g K l s F w2):=by
  refine LH ⟨hR,hpl,Fp,hP2,?_,fun b hb=>(hG b hb).imp id fun h=>Nat.le_trans B1.out.size h⟩;refine⟨hT.os.trans B1.out.os,hT.tape.trans B1.out.tape,hT.output.trans B1.out.output,Nat.le_trans B1.out.size hT.size,fun b hb hf=> ?_⟩;rw [hT.block b (Nat.lt_of_lt_of_le hb B1.out.size) (by rintro(h|h);exact hf h;omega)];exact B1.out.block b hb
 have c2:=bC hn;have z2:=lB hn;clear hR hP2 hG hT hn hpl X1 P1 B1 HR;go_wp2_with fail
 go_ret2
 exact⟨ps,s,rfl,HE.out⟩
section
class Zone where
 n:Nat
 z:Nat→Prop
 up: ∀b,n≤b→z b
instance (priority:=low) zoneAll:Zone:=⟨0,fun _=>True,fun _ _=>trivial⟩
variable [Zone]
def SlZ {α:Type} {size:Nat} (w:World) (e:TypeId) (E:Enc α size) (A:Option Addr) (l:List α) :Prop:=
 Zone.n≤w.heap.size∧(l= []∨∃b off,A=some ⟨b,off,none⟩∧(TypeAt w b e∧Zone.z b)∧∀i x,l[i]? =some x→∀j u,(E.enc x)[j]? =some u→w.cell? ⟨b,off+i*size+j,none⟩ =some u)
section
variable {α:Type} {size:Nat} {w w':World} {e t:TypeId} {E:Enc α size} {A:Option Addr} {l:List α}
theorem SlZ.nil (h:Zone.n≤w.heap.size) :SlZ w e E A []:=⟨h,.inl rfl⟩
theorem SlZ.n (h:SlZ w e E A l) :Zone.n≤w.heap.size:=h.1
theorem SlZ.none_ (h:SlZ w e E A l) :SlZ w e E none []:=⟨h.1,.inl rfl⟩
theorem SlZ.slT (h:SlZ w e E A l) :SlT w e E A l:=by
 rcases h.2 with h| ⟨b,off,hA,hT,hc⟩
 ·exact .inl h
 ·exact .inr ⟨b,off,hA,hT.1,hc⟩
theorem SlZ.sl (h:SlZ w e E A l) :Sl w w.heap.size E A l:=h.slT.sl
theorem SlZ.below (h:SlZ w e E A l) (hb:Below w.heap.size w w') :SlZ w' e E A l:=by
 refine⟨Nat.le_trans h.1 hb.size,?_⟩;rcases h.2 with h| ⟨b,off,hA,hT,hc⟩
 ·exact .inl h
 ·exact .inr ⟨b,off,hA,⟨hT.1.below hb,hT.2⟩,fun i x hi j u hj=>(hb.cell (p:=⟨b,_,none⟩) hT.1.lt).trans (hc i x hi j u hj)⟩
theorem SlZ.alloc (h:SlZ w e E A l) (o:Obj) :SlZ (w.alloc o) e E A l:=h.below ((Below.refl _ _).alloc (Nat.le_refl _) o)
theorem SlZ.drew (h:SlZ w e E A l) :SlZ w.drew e E A l:=h
theorem SlZ.keepB (h:SlZ w e E A l) (hs:w.heap.size≤w'.heap.size) (hk: ∀b,TypeAt w b e→Zone.z b→w'.heap[b]? =w.heap[b]?) :SlZ w' e E A l:=by
 refine⟨Nat.le_trans h.1 hs,?_⟩;rcases h.2 with h| ⟨b,off,hA,hT,hc⟩
 ·exact .inl h
 ·have hb:=hk b hT.1 hT.2
  obtain⟨cs,fr,h1⟩:=hT.1;exact .inr ⟨b,off,hA,⟨⟨cs,fr,hb.trans h1⟩,hT.2⟩,fun i x hi j u hj=>(World.cell?_of_block hb).trans (hc i x hi j u hj)⟩
theorem SlZ.setCellT {p:Addr} {u:Value} (h:SlZ w e E A l) (hp:TypeAt w p.block t) (hne:e≠t) :SlZ (w.setCell p u) e E A l:=by
 refine h.keepB (by simp) fun b hT _=>Below.heap_setCell w p u b ?_;rintro rfl;obtain⟨_,_,h1⟩:=hT;obtain⟨_,_,h2⟩:=hp;rw [h1] at h2
 cases h2
 exact hne rfl
theorem SlZ.grownO {β:Type} {s2:Nat} {e2 base:Nat} {E2:Enc β s2} {l2:List β} {v:Value} (h:SlZ w e E A l) (ho:Own w base e2 E2 v l2) (hg:w.grownBy w' v.ownBlock) (hne:e≠e2) :SlZ w' e E A l:=by
 refine h.keepB hg.size fun b hT _=> ?_;obtain⟨cs,fr,h1⟩:=hT;exact hg.block b (lB h1) (Ne.symm (ho.ne_block h1 (Ne.symm hne)))
theorem Own.slZ {base n cap:Nat} (h:Own w base e E (.slice A n cap) l) (hz:Zone.n≤base) (hw:base≤w.heap.size) :SlZ w e E A l:=by
 refine⟨Nat.le_trans hz hw,?_⟩;have h1:=h.slT;rcases h1 with h1| ⟨b,off,hA,hT,hc⟩
 ·exact .inl h1
 ·refine .inr ⟨b,off,hA,⟨hT,Zone.up b ?_⟩,hc⟩
  rcases h with ⟨hv,_⟩ | ⟨g,o,c,cur,hv,hg,_⟩
  ·cases hv;cases hA
  ·cases hv;cases hA
   exact Nat.le_trans hz hg
end
end
def Run12Post [Zone] (l:Nat) (most:Int) (r:List Nd) (w:World) (e:Ending) (w':World) :Prop:=
 ∃(ps:List Int) (s:List Nd) (A:Option Addr) (c:Nat) (Ap:Option Addr) (cp:Nat),e=.returned (.tuple #[.agg #[.int .i64 l,.slice A s.length c],.slice Ap ps.length cp])∧RunTo l most r ps s∧SlZ w' 154 encN A s∧Below w.heap.size w w'
structure RunR [Zone] (w:World) (l:Nat) (s:List Nd) (A:Option Addr) (c:Nat) (ps:List Int) (u:Value) (W:World) :Prop where
 x:W.heap[w.heap.size]? =some (.cells #[.int .i64 l,.slice A s.length c] 33 (0,0))
 y:W.heap[w.heap.size+1]? =some (.cells #[.int .i64 0,.slice none 0 0] 33 (0,0))
 sl:SlZ W 154 encN A s
 o:Own W (w.heap.size+2) 3 encZ u ps
 b:Below w.heap.size w W
 z:w.heap.size+2≤W.heap.size
theorem RunR.below [Zone] {w W W':World} {l:Nat} {s:List Nd} {A:Option Addr} {c:Nat} {ps:List Int} {u:Value} (h:RunR w l s A c ps u W) (hb:Below W.heap.size W W') :RunR w l s A c ps u W':=
 ⟨bB h.x hb,bB h.y hb,h.sl.below hb,h.o.below hb,Below.then_ h.b hb,Nat.le_trans h.z hb.size⟩
theorem StorePost.at_ [Zone] {l:Nat} {R:List Nd} {n:Int} {w w':World} {e:Ending} (h:StorePost l R n w e w') (hz:Zone.n≤w.heap.size) : ∃A c,e=.returned (.tuple #[.agg #[.int .i64 l,.slice A R.length c],.int .i64 n])∧SlZ w' 154 encN A R∧Below w.heap.size w w':=by
 obtain⟨A,c,h1,h2,h3⟩:=h;exact⟨A,c,h1,h2.slZ hz (by have:=h3.size;omega),h3⟩
theorem ref12_Run [Zone] (w:World) (l:Nat) (k:Int) (A:Option Addr) (cap:Nat) (r:List Nd) (hl:1≤l∧l≤48) (hS:SlZ w 154 encN A r) (hf:Fits l r) (hI:ints r) (hlen:r.length≤999) (hk:1≤k) (hk2:k≤1048576) :
 Calls Tryz.prog 140 #[.agg #[.int .i64 l,.slice A r.length cap],.int .i64 k] w (Run12Post l (sumR r / k) r w):=by
 have hdp:=deep_le hf hl.2;obtain⟨most,hm⟩ : ∃m,m=sumR r / k:=⟨_,rfl⟩;rw [←hm]
 have HCp:Hid (∀W A c s,SlZ W 154 encN A s→ints s→Fits l s→s.length≤999→sumR s=sumR r→Calls Tryz.prog 147 #[.agg #[.int .i64 l,.slice A s.length c],.int .i64 k] W fun e w'=>e=.returned (.int .i64 most)∧Below W.heap.size W w'):=LH fun W A c s h1 h2 h3 h4 h5=>by
  have h0:=sumR_nonneg h3.roll;have ht:=tot_roll h3.roll h3.sum;have:=ref12_Cap W l k A c s h1.sl h2 (Nat.le_trans h4 (by decide)) (by rw [ht];exact h0) (by rw [ht];exact h3.sum) hk hk2;rw [ht,h5,←hm] at this;exact this
 have HFi:=LH (fun W A c s (h1:SlZ W 154 encN A s) (h2:ints s) (h3:Fits l s) (h4:s.length≤999)=>ref11_First W l A c s h1.sl h2 h4 h3.roll h3.sum most);have HDo:=LH (fun W A c s p (h1:SlZ W 154 encN A s) (h2:ints s) (h3:Fits l s) (h4:s.length≤999) (h5:readyR l s p most=true)=>ref11_Do W l A c s p most hl.2 h1.sl h3.roll h2 h3.sum (by omega) h5);have HFits:=LH hf;have HInt:=LH (fun s (h:Fits l s)=>fits_ints h hl.2);have R0:Hid (RunR w l r A cap [] (.slice none 0 0) ((w.alloc (.cells #[.int .i64 l,.slice A r.length cap] 33)).alloc (.cells #[.int .i64 0,.slice none 0 0] 33))):=LH ⟨(heap_new_lt _ _ _ (by simp)).trans (heap_alloc_new w _),heap_new_at (w.alloc _) _ _ (by simp),(hS.alloc _).alloc _,.nil _ _ _ _,bE,by simp⟩;have hd0:deepR r≤20000000000:=by omega
 clear hS hI hm hf
 go_enter Tryz.func140,Tryz.ntmps140
 go_upto_region 1 with fail;generalize ((w.alloc (.cells #[.int .i64 l,.slice A r.length cap] 33)).alloc (.cells #[.int .i64 0,.slice none 0 0] 33)) =W0 at R0⊢;go_wp2_with fail
 go_loopg [6] 20000000000 (fun kk u wr=>∃(s:List Nd) (ps:List Int) (As:Option Addr) (cs:Nat),RunR w l s As cs ps u wr∧Folded l most r s∧(∀qs t,RunTo l most s qs t→RunTo l most r (ps ++ qs) t)∧ps.length+deepR s≤deepR r∧deepR s≤kk∧kk≤20000000000)
 case atStart=>exact⟨r, [],A,cap,R0.out,.refl _,fun qs t h=>h,by simp,hd0,Nat.le_refl _⟩
 case round=>
  obtain⟨s,ps,As,cs,hR,hFo,hTo,hdp,hk1,hk3⟩:=hrel;have R:=LH hR;have HFo:=LH hFo;have HTo:=LH hTo;have hfs:=hFo.fits HFits.out;have hls:=hFo.len HFits.out;have HSum:=LH (hFo.sum HFits.out);have HIs:=LH (HInt.out s hfs);have HFs:=LH hfs;have hsl:s.length≤999:=by omega
  have HD:=LH hdp;clear hR hFo hTo hfs hls hdp;go_upto_region 2 with fail;refine wp_region_noPanic ?_;refine wp_region_N (RunR w l s As cs ps u6) [] (by kernel_rfl) (R.out.below ((Below.refl _ _).drew)) (fun hHeld=> ?_);replace R:=LH hHeld;generalize wr.drew=Wd at R hHeld⊢;clear hHeld;refine nT 0 (Value.agg #[.int .i64 l,.slice As s.length cs]) (y:=Or.inl ⟨by rfl,fun W hW=>by have q1:=bC hW.x;have q2:=lB hW.x;go_simp⟩) (s:=R.out) (h:= ?_)
  (try simp only [zA,zB,zC,Act.put,zD,zE,zF])
  refine nT 1 (Value.agg #[.int .i64 l,.slice As s.length cs]) (y:=Or.inl ⟨by rfl,fun W hW=>by have q1:=bC hW.x;have q2:=lB hW.x;go_simp⟩) (s:=R.out) (h:= ?_)
  (try simp only [zA,zB,zC,Act.put,zD,zE,zF])
  refine nP 2 (Value.int .i64 k) (h:= ?_)
  (try simp only [zA,zB,zC,Act.put,zD,zE,zF])
  refine nO (i:=3) (by kernel_rfl) rfl (fun K hK=> ?_);go_simp;refine(HCp.out _ As cs s R.out.sl HIs.out HFs.out hsl HSum.out).mono ?_;rintro e w3 ⟨rfl,hb⟩;replace R:=LH (R.out.below hb);clear hb;refine hK.out _ _ (fun _ _=>R.out) ?_;clear hK K
  (try simp only [zA,zB,zC,Act.put,zD,zE,zF])
  refine nO (i:=4) (by kernel_rfl) rfl (fun K hK=> ?_);go_simp;refine(HFi.out _ As cs s R.out.sl HIs.out HFs.out hsl).mono ?_;rintro e w4 ⟨id,ok,rfl,h1,h2,hb⟩;have HK:=LH (And.intro h1 h2);replace R:=LH (R.out.below hb);clear hb h1 h2;refine hK.out _ _ (fun _ _=>R.out) ?_;clear hK K
  (try simp only [zA,zB,zC,Act.put,zD,zE,zF])
  refine nP 5 (Value.tuple #[.int .i64 id,.bool ok]) (h:= ?_)
  (try simp only [zA,zB,zC,Act.put,zD,zE,zF])
  refine nP 6 (Value.int .i64 id) (h:= ?_)
  (try simp only [zA,zB,zC,Act.put,zD,zE,zF])
  refine nP 7 (Value.bool ok) (h:= ?_)
  (try simp only [zA,zB,zC,Act.put,zD,zE,zF])
  refine nP 8 (Value.int .i64 id) (h:= ?_)
  (try simp only [zA,zB,zC,Act.put,zD,zE,zF])
  refine nO (i:=9) (by kernel_rfl) rfl (fun K hK=> ?_);go_simp;refine hK.out _ _ (fun _ _=>R.out) ?_;clear hK K
  (try simp only [zA,zB,zC,Act.put,zD,zE,zF])
  refine nD (by kernel_rfl) ?_ _;refine NoPanic.normal ?_;have cx:=bC R.out.x;have fx:=bF R.out.x;have zx:=lB R.out.x;have cy:=bC R.out.y;have fy:=bF R.out.y;have zy:=lB R.out.y
  cases ok
  ·have HE:=LH (HTo.out [] s (.done (HK.out.2 rfl)))
   rw [List.append_nil] at HE;obtain⟨Ap,cp,rfl,_⟩:=R.out.o.form;go_wp2_with fail;have Y5:Hid (((w4.setCell ⟨w.heap.size+1,0,none⟩ (.int .i64 l)).setCell ⟨w.heap.size+1,1,none⟩ (.slice As s.length cs)).heap[w.heap.size+1]? =some (.cells #[.int .i64 l,.slice As s.length cs] 33 (0,0))):=LH (zH (i:=1) (zH (i:=0) R.out.y (.int .i64 l)) _);have S5:Hid (SlZ ((w4.setCell ⟨w.heap.size+1,0,none⟩ (.int .i64 l)).setCell ⟨w.heap.size+1,1,none⟩ (.slice As s.length cs)) 154 encN As s):=LH ((R.out.sl.setCellT (t:=33) (.of R.out.y) (by decide)).setCellT (t:=33) (TypeAt.setCell (.of R.out.y)) (by decide));have B5:Hid (Below w.heap.size w ((w4.setCell ⟨w.heap.size+1,0,none⟩ (.int .i64 l)).setCell ⟨w.heap.size+1,1,none⟩ (.slice As s.length cs))):=LH (Below.setCell (p:=⟨w.heap.size+1,1,none⟩) (Below.setCell (p:=⟨w.heap.size+1,0,none⟩) R.out.b (by simp) _) (by simp) _);clear cx fx zx cy fy zy;generalize ((w4.setCell ⟨w.heap.size+1,0,none⟩ (.int .i64 l)).setCell ⟨w.heap.size+1,1,none⟩ (.slice As s.length cs)) =w5 at Y5 S5 B5⊢;have c5:=bC Y5.out;have f5:=bF Y5.out;have z5:=lB Y5.out;exact bR (v:=.tuple #[.agg #[.int .i64 l,.slice As s.length cs],.slice Ap ps.length cp]) (by simp only [results,Tryz.results140];go_simp) rfl (show Run12Post l most r w _ _ from⟨ps,s,As,cs,Ap,cp,rfl,HE.out,S5.out,B5.out⟩)
  ·have hfi:=HK.out.1 rfl
   have HFr:=LH hfi;have hy:=hfi.1
   have HTo2:Hid (∀qs t,RunTo l most (foldR s id) qs t→RunTo l most r ((ps ++ [id]) ++ qs) t):=LH fun qs t h=>by
    have:=HTo.out _ _ (.step HFr.out h)
    simpa using this
   have HFo2:Hid (Folded l most r (foldR s id)):=LH (.step id HFo.out hy);have hdf:=deep_fold HFs.out.roll hy;have HDo1:=LH (HDo.out w4 As cs s id R.out.sl HIs.out HFs.out hsl hy);obtain⟨s2,hs2⟩ : ∃s2,s2=foldR s id:=⟨_,rfl⟩;rw [←hs2] at HTo2 HFo2 hdf HDo1;generalize pairR s id=pr at HDo1;clear hfi hy hs2 HK HFr;go_wp2_with fail;refine HDo1.out.mono ?_;intro e w5 hst;obtain⟨A5,cp5,rfl,hs5,hb⟩:=hst.at_ R.out.sl.n;have R5:=LH (R.out.below hb);have S5:=LH hs5;clear hb hs5 hst cx fx zx cy fy zy R HDo1;have cx:=bC R5.out.x;have fx:=bF R5.out.x;have zx:=lB R5.out.x;have R6:Hid (RunR w l s2 A5 cp5 ps u6 ((w5.setCell ⟨w.heap.size,0,none⟩ (.int .i64 l)).setCell ⟨w.heap.size,1,none⟩ (.slice A5 s2.length cp5))):=LH ⟨zH (i:=1) (zH (i:=0) R5.out.x (.int .i64 l)) _,(Below.heap_setCell _ _ _ _ (by simp)).trans ((Below.heap_setCell _ _ _ _ (by simp)).trans R5.out.y),(S5.out.setCellT (t:=33) (.of R5.out.x) (by decide)).setCellT (t:=33) (TypeAt.setCell (.of R5.out.x)) (by decide),(R5.out.o.setCellB (p:=⟨w.heap.size,0,none⟩) (by simp)).setCellB (p:=⟨w.heap.size,1,none⟩) (by simp),Below.setCell (p:=⟨w.heap.size,1,none⟩) (Below.setCell (p:=⟨w.heap.size,0,none⟩) R5.out.b (by simp) _) (by simp) _,by simp only [World.size_setCell];exact R5.out.z⟩;go_upto_region 6 with fail;generalize ((w5.setCell ⟨w.heap.size,0,none⟩ (.int .i64 l)).setCell ⟨w.heap.size,1,none⟩ (.slice A5 s2.length cp5)) =w6 at R6⊢;clear cx fx zx R5 S5;obtain⟨Ap,cp,rfl,_⟩:=R6.out.o.form;have O6:=LH R6.out.o;have hz6:=R6.out.z;have hps:ps.length≤48*999:=by have:=HD.out;omega
   go_wp2_with ((at_builtin;refine wpList_push tyZ rfl _ _ rfl encZ w6 (w.heap.size+2) (.slice Ap ps.length cp) ps rfl O6.out id (by go_simp) rfl ?d1 ?d2 ?d3 ?d4))
   case d1=>omega
   case d2=>simp only [maxLen];omega
   case d3=>exact hz6
   case d4=>
    intro v7 w7 ho7 hg7 hs7 _ hb7 _;have R7:Hid (RunR w l s2 A5 cp5 (ps ++ [id]) v7 w7):=LH ⟨(hb7.block _ (by omega)).trans R6.out.x,(hb7.block _ (by omega)).trans R6.out.y,R6.out.sl.grownO O6.out hg7 (by decide),ho7,R6.out.b.trans (hb7.mono (by omega)),by omega⟩;have hd7:=HD.out;clear ho7 hg7 hs7 hb7 O6 R6;go_wp2_with fail
    go_roundg (gk - 1)
    case measure=>omega
    case rel=>exact⟨s2,ps ++ [id],A5,cp5,R7.out,HFo2.out,HTo2.out,by simp only [List.length_append,List.length_cons,List.length_nil];omega,by omega,by omega⟩
def Comp13Post [Zone] (l:Nat) (k:Int) (r:List Nd) (w:World) (e:Ending) (w':World) :Prop:=
 ∃(ps:List Int) (s:List Nd) (A:Option Addr) (c:Nat),e=.returned (.tuple #[.agg #[.int .i64 k,.int .i64 l,.slice A s.length c],.int .i64 ps.length])∧RunTo l (sumR r / k) r ps s∧SlZ w' 154 encN A s∧Below w.heap.size w w'
theorem ref13_Compress [Zone] (w:World) (l:Nat) (k:Int) (A:Option Addr) (cap:Nat) (r:List Nd) (hl:1≤l∧l≤48) (hS:SlZ w 154 encN A r) (hf:Fits l r) (hI:ints r) (hlen:r.length≤999) (hk:1≤k) (hk2:k≤1048576) :
 Calls Tryz.prog 87 #[.agg #[.int .i64 k,.int .i64 l,.slice A r.length cap]] w (Comp13Post l k r w):=by
 have HRn:=LH (fun W h=>ref12_Run W l k A cap r hl h hf hI hlen hk hk2);have SA:=LH hS;have HPost:Hid (∀(e:Ending) (W:World) (ps:List Int) (s:List Nd) (A:Option Addr) (c:Nat),RunTo l (sumR r / k) r ps s→SlZ W 154 encN A s→Below w.heap.size w W→Comp13Post l k r w (.returned (.tuple #[.agg #[.int .i64 k,.int .i64 l,.slice A s.length c],.int .i64 ps.length])) W):=LH fun e W ps s A c h1 h2 h3=>⟨ps,s,A,c,rfl,h1,h2,h3⟩;generalize sumR r / k=most at HRn HPost;have X0:Hid (((w.alloc (.cells #[.int .i64 k,.int .i64 l,.slice A r.length cap] 35)).alloc (.cells #[.int .i64 0,.int .i64 0,.slice none 0 0] 35)).heap[w.heap.size]? =some (.cells #[.int .i64 k,.int .i64 l,.slice A r.length cap] 35 (0,0))):=LH ((heap_new_lt _ _ _ (by simp)).trans (heap_alloc_new w _));have Y0:Hid (((w.alloc (.cells #[.int .i64 k,.int .i64 l,.slice A r.length cap] 35)).alloc (.cells #[.int .i64 0,.int .i64 0,.slice none 0 0] 35)).heap[w.heap.size+1]? =some (.cells #[.int .i64 0,.int .i64 0,.slice none 0 0] 35 (0,0))):=LH (heap_new_at (w.alloc _) _ _ (by simp));have B0:Hid (Below w.heap.size w ((w.alloc (.cells #[.int .i64 k,.int .i64 l,.slice A r.length cap] 35)).alloc (.cells #[.int .i64 0,.int .i64 0,.slice none 0 0] 35))):=LH bE;clear hS hf hI
 go_enter Tryz.func87,Tryz.ntmps87
 go_upto_region 1 with fail;generalize (w.alloc (.cells #[.int .i64 k,.int .i64 l,.slice A r.length cap] 35)).alloc (.cells #[.int .i64 0,.int .i64 0,.slice none 0 0] 35) =W0 at X0 Y0 B0⊢;have S0:=LH (SA.out.below B0.out);have c0:=bC X0.out;have z0:=lB X0.out;go_wp2_with fail;refine(HRn.out W0 S0.out).mono ?_;rintro e w1 ⟨ps,s,As,cs,Ap,cp,rfl,hrun,hs,hb⟩;have HRun:=LH hrun;have X2:=LH (bB (bB X0.out hb) ((Below.refl w1.heap.size w1).alloc (Nat.le_refl _) (.cells #[.int .i64 l,.slice As s.length cs] 33)));have Y2:=LH (bB (bB Y0.out hb) ((Below.refl w1.heap.size w1).alloc (Nat.le_refl _) (.cells #[.int .i64 l,.slice As s.length cs] 33)));have V2:=LH (heap_alloc_new w1 (.cells #[.int .i64 l,.slice As s.length cs] 33));have B2:=LH (Below.allocW (Below.then_ B0.out hb) (.cells #[.int .i64 l,.slice As s.length cs] 33));have S2:=LH (hs.alloc (.cells #[.int .i64 l,.slice As s.length cs] 33));clear hrun hs hb c0 z0 X0 Y0 B0 S0 SA HRn;go_upto_region 2 with fail;obtain⟨q,hq⟩ : ∃q,q=w1.heap.size:=⟨_,rfl⟩;rw [←hq] at V2⊢;generalize w1.alloc (.cells #[.int .i64 l,.slice As s.length cs] 33) =w2 at X2 Y2 V2 B2 S2⊢;clear hq;have c2:=bC X2.out;have f2:=bF X2.out;have z2:=lB X2.out;have cv:=bC V2.out;have zv:=lB V2.out;have cy:=bC Y2.out;have fy:=bF Y2.out;have zy:=lB Y2.out;go_wp2_with fail;have Y3:Hid ((((((w2.setCell ⟨w.heap.size,1,none⟩ (.int .i64 l)).setCell ⟨w.heap.size,2,none⟩ (.slice As s.length cs)).setCell ⟨w.heap.size+1,0,none⟩ (.int .i64 k)).setCell ⟨w.heap.size+1,1,none⟩ (.int .i64 l)).setCell ⟨w.heap.size+1,2,none⟩ (.slice As s.length cs)).heap[w.heap.size+1]? =some (.cells #[.int .i64 k,.int .i64 l,.slice As s.length cs] 35 (0,0))):=LH (zH (i:=2) (zH (i:=1) (zH (i:=0) ((Below.heap_setCell _ _ _ _ (by simp)).trans ((Below.heap_setCell _ _ _ _ (by simp)).trans Y2.out)) (.int .i64 k)) (.int .i64 l)) _);have S3:Hid (SlZ (((((w2.setCell ⟨w.heap.size,1,none⟩ (.int .i64 l)).setCell ⟨w.heap.size,2,none⟩ (.slice As s.length cs)).setCell ⟨w.heap.size+1,0,none⟩ (.int .i64 k)).setCell ⟨w.heap.size+1,1,none⟩ (.int .i64 l)).setCell ⟨w.heap.size+1,2,none⟩ (.slice As s.length cs)) 154 encN As s):=LH (((((S2.out.setCellT (t:=35) (.of X2.out) (by decide)).setCellT (t:=35) (TypeAt.setCell (.of X2.out)) (by decide)).setCellT (t:=35) (TypeAt.setCell (TypeAt.setCell (.of Y2.out))) (by decide)).setCellT (t:=35) (TypeAt.setCell (TypeAt.setCell (TypeAt.setCell (.of Y2.out)))) (by decide)).setCellT (t:=35) (TypeAt.setCell (TypeAt.setCell (TypeAt.setCell (TypeAt.setCell (.of Y2.out))))) (by decide));have B3:Hid (Below w.heap.size w (((((w2.setCell ⟨w.heap.size,1,none⟩ (.int .i64 l)).setCell ⟨w.heap.size,2,none⟩ (.slice As s.length cs)).setCell ⟨w.heap.size+1,0,none⟩ (.int .i64 k)).setCell ⟨w.heap.size+1,1,none⟩ (.int .i64 l)).setCell ⟨w.heap.size+1,2,none⟩ (.slice As s.length cs))):=LH (Below.setCell (p:=⟨w.heap.size+1,2,none⟩) (Below.setCell (p:=⟨w.heap.size+1,1,none⟩) (Below.setCell (p:=⟨w.heap.size+1,0,none⟩) (Below.setCell (p:=⟨w.heap.size,2,none⟩) (Below.setCell (p:=⟨w.heap.size,1,none⟩) B2.out (by simp) _) (by simp) _) (by simp) _) (by simp) _) (by simp) _);clear c2 f2 z2 cv zv cy fy zy;generalize (((((w2.setCell ⟨w.heap.size,1,none⟩ (.int .i64 l)).setCell ⟨w.heap.size,2,none⟩ (.slice As s.length cs)).setCell ⟨w.heap.size+1,0,none⟩ (.int .i64 k)).setCell ⟨w.heap.size+1,1,none⟩ (.int .i64 l)).setCell ⟨w.heap.size+1,2,none⟩ (.slice As s.length cs)) =w3 at Y3 S3 B3⊢;have c3:=bC Y3.out;have f3:=bF Y3.out;have z3:=lB Y3.out;exact bR (v:=.tuple #[.agg #[.int .i64 k,.int .i64 l,.slice As s.length cs],.int .i64 ps.length]) (by simp only [results,Tryz.results87];go_simp) rfl (HPost.out (.returned (.tuple #[])) w3 ps s As cs HRun.out S3.out B3.out)
def Ins13Post [Zone] (l:Nat) (k:Int) (r:List Nd) (x c:Int) (w:World) (e:Ending) (w':World) :Prop:=
 ∃(s:List Nd) (A:Option Addr) (cp:Nat),e=.returned (.tuple #[.agg #[.int .i64 k,.int .i64 l,.slice A s.length cp],.int .i64 (insErr l r x c)])∧InsTo l k r x c s∧SlZ w' 154 encN A s∧Below w.heap.size w w'
structure InsR [Zone] (w:World) (l:Nat) (k:Int) (s:List Nd) (A:Option Addr) (c:Nat) (W:World) :Prop where
 x:W.heap[w.heap.size]? =some (.cells #[.int .i64 k,.int .i64 l,.slice A s.length c] 35 (0,0))
 y:W.heap[w.heap.size+1]? =some (.cells #[.int .i64 0,.int .i64 0,.slice none 0 0] 35 (0,0))
 sl:SlZ W 154 encN A s
 b:Below w.heap.size w W
theorem InsR.below [Zone] {w W W':World} {l:Nat} {k:Int} {s:List Nd} {A:Option Addr} {c:Nat} (h:InsR w l k s A c W) (hb:Below W.heap.size W W') :InsR w l k s A c W':=
 ⟨bB h.x hb,bB h.y hb,h.sl.below hb,Below.then_ h.b hb⟩
structure InsE [Zone] (w:World) (l:Nat) (k:Int) (s:List Nd) (A:Option Addr) (c:Nat) (W:World) :Prop where
 y:W.heap[w.heap.size+1]? =some (.cells #[.int .i64 k,.int .i64 l,.slice A s.length c] 35 (0,0))
 sl:SlZ W 154 encN A s
 b:Below w.heap.size w W
theorem InsR.done [Zone] {w W:World} {l:Nat} {k:Int} {s:List Nd} {A:Option Addr} {c:Nat} (h:InsR w l k s A c W) :InsE w l k s A c (((W.setCell ⟨w.heap.size+1,0,none⟩ (.int .i64 k)).setCell ⟨w.heap.size+1,1,none⟩ (.int .i64 l)).setCell ⟨w.heap.size+1,2,none⟩ (.slice A s.length c)):=
 ⟨zH (i:=2) (zH (i:=1) (zH (i:=0) h.y (.int .i64 k)) (.int .i64 l)) _,
  ((h.sl.setCellT (t:=35) (.of h.y) (by decide)).setCellT (t:=35) (TypeAt.setCell (.of h.y)) (by decide)).setCellT (t:=35) (TypeAt.setCell (TypeAt.setCell (.of h.y))) (by decide),
  Below.setCell (p:=⟨w.heap.size+1,2,none⟩) (Below.setCell (p:=⟨w.heap.size+1,1,none⟩) (Below.setCell (p:=⟨w.heap.size+1,0,none⟩) h.b (by simp) _) (by simp) _) (by simp) _⟩
theorem ref13_Insert_no [Zone] (w:World) (l:Nat) (k:Int) (A:Option Addr) (cap:Nat) (r:List Nd) (x c:Int) (hl:1≤l∧l≤48) (hS:SlZ w 154 encN A r) (hf:Fits l r) (hI:ints r) (hlen:r.length≤999) (he:insErr l r x c≠0) :
 Calls Tryz.prog 86 #[.agg #[.int .i64 k,.int .i64 l,.slice A r.length cap],.int .i64 x,.int .i64 c] w (Ins13Post l k r x c w):=by
 have hs0:=sumR_nonneg hf.roll;have hs1:=hf.sum;have HL:=LH (fun W=>ref2_Leaf W l x hl.1 hl.2);have HW:=LH (fun W h=>ref13_Weight W k l A cap r h hI (Nat.le_trans hlen (by decide)));rw [tot_roll hf.roll hs1] at HW;have HP:Hid (∀W n,n=insErr l r x c→InsE w l k r A cap W→Ins13Post l k r x c w (.returned (.tuple #[.agg #[.int .i64 k,.int .i64 l,.slice A r.length cap],.int .i64 n])) W):=LH fun W n hn h=>⟨r,A,cap,by rw [hn],.inl ⟨he,rfl⟩,h.sl,h.b⟩;have R0:Hid (InsR w l k r A cap ((w.alloc (.cells #[.int .i64 k,.int .i64 l,.slice A r.length cap] 35)).alloc (.cells #[.int .i64 0,.int .i64 0,.slice none 0 0] 35))):=LH ⟨(heap_new_lt _ _ _ (by simp)).trans (heap_alloc_new w _),heap_new_at (w.alloc _) _ _ (by simp),(hS.alloc _).alloc _,bE⟩;have HE:=LH he;unfold insErr at HE;have h3:isVal l x=false→insErr l r x c=3:=fun h=>by unfold insErr;rw [if_pos h]
 have h4:isVal l x=true→c<1→insErr l r x c=4:=fun h h2=>by unfold insErr;rw [if_neg (by simp [h]),if_pos h2]
 have h5:isVal l x=true→¬c<1→insErr l r x c=5:=fun h h2=>by
  have:=HE.out;unfold insErr;rw [if_neg (by simp [h]),if_neg h2] at this⊢
  split
  ·rfl
  ·rename_i h6;rw [if_neg h6] at this;exact absurd rfl this
 have h6:isVal l x=true→¬c<1→72057594037927935<sumR r+c:=fun h h2=>by
  have:=HE.out;rw [if_neg (by simp [h]),if_neg h2] at this
  apply Classical.byContradiction
  intro h7;rw [if_neg h7] at this;exact absurd rfl this
 have hw:wrap64 (72057594037927935 - sumR r) =72057594037927935 - sumR r:=by unfold wrap64;omega
 generalize sumR r=t at HW h6 hw hs0 hs1;clear hS hf hI he HE;unfold leafV at HL
 cases hv:isVal l x
 ·have HP3:=LH (fun W h=>HP.out W 3 (h3 hv).symm h)
  rw [hv] at HL;clear h3 h4 h5 h6 hw hv HW HP hs0 hs1
  go_enter Tryz.func86,Tryz.ntmps86
  go_upto_region 1 with fail;generalize ((w.alloc (.cells #[.int .i64 k,.int .i64 l,.slice A r.length cap] 35)).alloc (.cells #[.int .i64 0,.int .i64 0,.slice none 0 0] 35)) =W0 at R0⊢;have c0:=bC R0.out.x;have z0:=lB R0.out.x;go_wp2_with fail;refine(HL.out W0).mono ?_;rintro e w1 ⟨rfl,hb⟩;have R1:=LH (R0.out.below hb);clear hb c0 z0 R0;have c1:=bC R1.out.x;have z1:=lB R1.out.x;have d1:=bC R1.out.y;have f1:=bF R1.out.y;have y1:=lB R1.out.y;go_wp2_with fail;have E1:=LH R1.out.done;clear c1 z1 d1 f1 y1;generalize (((w1.setCell ⟨w.heap.size+1,0,none⟩ (.int .i64 k)).setCell ⟨w.heap.size+1,1,none⟩ (.int .i64 l)).setCell ⟨w.heap.size+1,2,none⟩ (.slice A r.length cap)) =w2 at E1⊢;have c2:=bC E1.out.y;have f2:=bF E1.out.y;have z2:=lB E1.out.y;exact bR (v:=.tuple #[.agg #[.int .i64 k,.int .i64 l,.slice A r.length cap],.int .i64 3]) (by simp only [results,Tryz.results86];go_simp) rfl (HP3.out _ E1.out)
 ·rw [hv] at HL
  by_cases hc1:c<1
  ·have HP3:=LH (fun W h=>HP.out W 4 (h4 hv hc1).symm h)
   clear hw HW hs0 hs1 h3 h4 h5 h6 hv HP;obtain⟨lf,hlf⟩ : ∃lf:Int,lf=2^l+x:=⟨_,rfl⟩;rw [if_pos rfl,←hlf] at HL;clear hlf
   go_enter Tryz.func86,Tryz.ntmps86
   go_upto_region 1 with fail;generalize ((w.alloc (.cells #[.int .i64 k,.int .i64 l,.slice A r.length cap] 35)).alloc (.cells #[.int .i64 0,.int .i64 0,.slice none 0 0] 35)) =W0 at R0⊢;have c0:=bC R0.out.x;have z0:=lB R0.out.x;go_wp2_with fail;refine(HL.out W0).mono ?_;rintro e w1 ⟨rfl,hb⟩;have R1:=LH (R0.out.below hb);clear hb c0 z0 R0;have c1:=bC R1.out.x;have z1:=lB R1.out.x;have d1:=bC R1.out.y;have f1:=bF R1.out.y;have y1:=lB R1.out.y;go_wp2_with fail;have E1:=LH R1.out.done;clear c1 z1 d1 f1 y1;generalize (((w1.setCell ⟨w.heap.size+1,0,none⟩ (.int .i64 k)).setCell ⟨w.heap.size+1,1,none⟩ (.int .i64 l)).setCell ⟨w.heap.size+1,2,none⟩ (.slice A r.length cap)) =wz at E1⊢;have ce:=bC E1.out.y;have fe:=bF E1.out.y;have ze:=lB E1.out.y;exact bR (v:=.tuple #[.agg #[.int .i64 k,.int .i64 l,.slice A r.length cap],.int .i64 4]) (by simp only [results,Tryz.results86];go_simp) rfl (HP3.out _ E1.out)
  ·have HP3:=LH (fun W h=>HP.out W 5 (h5 hv hc1).symm h)
   have h7:=h6 hv hc1;have hc1':decide (c<1) =false:=by simpa using hc1
   have hc2:decide (72057594037927935 - t<c) =true:=by simp;omega
   clear hc1 h7;clear h3 h4 h5 h6 hv HP;obtain⟨lf,hlf⟩ : ∃lf:Int,lf=2^l+x:=⟨_,rfl⟩;rw [if_pos rfl,←hlf] at HL;clear hlf
   go_enter Tryz.func86,Tryz.ntmps86
   go_upto_region 1 with fail;generalize ((w.alloc (.cells #[.int .i64 k,.int .i64 l,.slice A r.length cap] 35)).alloc (.cells #[.int .i64 0,.int .i64 0,.slice none 0 0] 35)) =W0 at R0⊢;have c0:=bC R0.out.x;have z0:=lB R0.out.x;go_wp2_with fail;refine(HL.out W0).mono ?_;rintro e w1 ⟨rfl,hb⟩;have R1:=LH (R0.out.below hb);clear hb c0 z0 R0;have c1:=bC R1.out.x;have z1:=lB R1.out.x;go_wp2_with fail;refine(HW.out w1 R1.out.sl.sl).mono ?_;rintro e w2 ⟨rfl,hb⟩;have R2:=LH (R1.out.below hb);clear hb c1 z1 R1;have c2:=bC R2.out.x;have z2:=lB R2.out.x;have d2:=bC R2.out.y;have f2:=bF R2.out.y;have y2:=lB R2.out.y;go_wp2_with fail;have E1:=LH R2.out.done;clear c2 z2 d2 f2 y2;generalize (((w2.setCell ⟨w.heap.size+1,0,none⟩ (.int .i64 k)).setCell ⟨w.heap.size+1,1,none⟩ (.int .i64 l)).setCell ⟨w.heap.size+1,2,none⟩ (.slice A r.length cap)) =wz at E1⊢;have ce:=bC E1.out.y;have fe:=bF E1.out.y;have ze:=lB E1.out.y;exact bR (v:=.tuple #[.agg #[.int .i64 k,.int .i64 l,.slice A r.length cap],.int .i64 5]) (by simp only [results,Tryz.results86];go_simp) rfl (HP3.out _ E1.out)
theorem InsR.box [Zone] {w W W':World} {l:Nat} {k:Int} {s s2:List Nd} {A A2:Option Addr} {c c2:Nat} (h:InsR w l k s A c W) (hb:Below W.heap.size W W') (hs:SlZ W' 154 encN A2 s2) :InsR w l k s2 A2 c2 (((W'.setCell ⟨w.heap.size,0,none⟩ (.int .i64 k)).setCell ⟨w.heap.size,1,none⟩ (.int .i64 l)).setCell ⟨w.heap.size,2,none⟩ (.slice A2 s2.length c2)):=by
 have h1:=bB h.x hb;have h2:=bB h.y hb
 exact⟨zH (i:=2) (zH (i:=1) (zH (i:=0) h1 (.int .i64 k)) (.int .i64 l)) _,
  (Below.heap_setCell _ _ _ _ (by simp)).trans ((Below.heap_setCell _ _ _ _ (by simp)).trans ((Below.heap_setCell _ _ _ _ (by simp)).trans h2)),
  ((hs.setCellT (t:=35) (.of h1) (by decide)).setCellT (t:=35) (TypeAt.setCell (.of h1)) (by decide)).setCellT (t:=35) (TypeAt.setCell (TypeAt.setCell (.of h1))) (by decide),
  Below.setCell (p:=⟨w.heap.size,2,none⟩) (Below.setCell (p:=⟨w.heap.size,1,none⟩) (Below.setCell (p:=⟨w.heap.size,0,none⟩) (Below.then_ h.b hb) (by simp) _) (by simp) _) (by simp) _⟩
theorem InsR.box2 [Zone] {w W W':World} {l:Nat} {k:Int} {s s2:List Nd} {A A2:Option Addr} {c c2:Nat} (h:InsR w l k s A c W) (hb:Below W.heap.size W W') (hs:SlZ W' 154 encN A2 s2) :InsR w l k s2 A2 c2 ((W'.setCell ⟨w.heap.size,1,none⟩ (.int .i64 l)).setCell ⟨w.heap.size,2,none⟩ (.slice A2 s2.length c2)):=by
 have h1:=bB h.x hb;have h2:=bB h.y hb
 exact⟨zH (i:=2) (zH (i:=1) h1 (.int .i64 l)) _,
  (Below.heap_setCell _ _ _ _ (by simp)).trans ((Below.heap_setCell _ _ _ _ (by simp)).trans h2),
  (hs.setCellT (t:=35) (.of h1) (by decide)).setCellT (t:=35) (TypeAt.setCell (.of h1)) (by decide),
  Below.setCell (p:=⟨w.heap.size,2,none⟩) (Below.setCell (p:=⟨w.heap.size,1,none⟩) (Below.then_ h.b hb) (by simp) _) (by simp) _⟩
theorem ref13_Insert [Zone] (w:World) (l:Nat) (k:Int) (A:Option Addr) (cap:Nat) (r:List Nd) (x c:Int) (hl:1≤l∧l≤48) (hS:SlZ w 154 encN A r) (hf:Fits l r) (hI:ints r) (hlen:r.length≤999) (hk:1≤k) (hk2:k≤1048576) (h8: (r.length:Int)≤8*k) (he:insErr l r x c=0) :
 Calls Tryz.prog 86 #[.agg #[.int .i64 k,.int .i64 l,.slice A r.length cap],.int .i64 x,.int .i64 c] w (Ins13Post l k r x c w):=by
 have hs0:=sumR_nonneg hf.roll;have hs1:=hf.sum;obtain⟨hv,hc1,hc2⟩:=ins_ok he;obtain⟨hx0,hx1⟩:=isVal_iff.1 hv;have hpw:=pow_48 hl.2;have hpp:=pow_pos' l;have HL:=LH (fun W=>ref2_Leaf W l x hl.1 hl.2);have HW:=LH (fun W h=>ref13_Weight W k l A cap r h hI (Nat.le_trans hlen (by decide)));rw [tot_roll hf.roll hs1] at HW;unfold leafV at HL;rw [hv,if_pos rfl] at HL;have hnode:isNode l (2^l+x) =true:=(leaf_node hl hx0 hx1).1;have HG:=LH (fun W h=>ref7_Get W l A cap r h hI (Nat.le_trans hlen (by decide)) (2^l+x));have HCm:=LH (fun W h=>ref13_Compress W l k A cap r hl h hf hI hlen hk hk2)
 have HAd:Hid (∀W A cp s,SlZ W 154 encN A s→PreTo l k r (2^l+x) s→Calls Tryz.prog 139 #[.agg #[.int .i64 l,.slice A s.length cp],.int .i64 (2^l+x),.int .i64 c] W (StorePost l (addR s (2^l+x) c) 0 W)):=LH fun W A cp s h1 h2=>by
  obtain⟨p1,p2,p3⟩:=h2.same hf;exact ref07_Add W l A cp s (2^l+x) c h1.sl p1.roll (fits_ints p1 hl.2) (by omega) hnode (by omega) (by omega) hc1 (by omega)
 have HP:Hid (∀W s A cp,PreTo l k r (2^l+x) s→InsE w l k (addR s (2^l+x) c) A cp W→Ins13Post l k r x c w (.returned (.tuple #[.agg #[.int .i64 k,.int .i64 l,.slice A (addR s (2^l+x) c).length cp],.int .i64 0])) W):=LH fun W s A cp hp h=>⟨_,A,cp,by rw [he],.inr ⟨he,s,hp,rfl⟩,h.sl,h.b⟩;have R0:Hid (InsR w l k r A cap ((w.alloc (.cells #[.int .i64 k,.int .i64 l,.slice A r.length cap] 35)).alloc (.cells #[.int .i64 0,.int .i64 0,.slice none 0 0] 35))):=LH ⟨(heap_new_lt _ _ _ (by simp)).trans (heap_alloc_new w _),heap_new_at (w.alloc _) _ _ (by simp),(hS.alloc _).alloc _,bE⟩;have hc1':decide (c<1) =false:=by simp;omega
 have hc2':decide (72057594037927935 - sumR r<c) =false:=by simp;omega
 have hw:wrap64 (72057594037927935 - sumR r) =72057594037927935 - sumR r:=by unfold wrap64;omega
 have hw8:wrap64 (8*k) =8*k:=by unfold wrap64;omega
 have HPC:Hid (∀ps s,RunTo l (sumR r / k) r ps s→getR r (2^l+x) =0→(r.length:Int) =8*k→PreTo l k r (2^l+x) s):=LH fun ps s h1 h2 h3=>.inl ⟨h2,by omega,ps,h1⟩;have HPN:Hid ((getR r (2^l+x)≠0∨(r.length:Int)≠8*k)→PreTo l k r (2^l+x) r):=LH fun h=>.inr ⟨fun h2=>by rcases h with h|h;exact h h2.1;omega,rfl⟩;obtain⟨lf,hlf⟩ : ∃lf:Int,lf=2^l+x:=⟨_,rfl⟩;rw [←hlf] at HL HG HAd HP HPC HPN;unfold Comp13Post at HCm;generalize sumR r / k=most at HCm HPC;generalize sumR r=tt at HW hc2' hw;generalize getR r lf=gg at HG HPC HPN;clear hS hf hI he hv hx0 hx1 hpw hpp hnode hlf hs0 hs1 hc1 hc2 h8
 go_enter Tryz.func86,Tryz.ntmps86
 go_upto_region 1 with fail;generalize ((w.alloc (.cells #[.int .i64 k,.int .i64 l,.slice A r.length cap] 35)).alloc (.cells #[.int .i64 0,.int .i64 0,.slice none 0 0] 35)) =W0 at R0⊢;have c0:=bC R0.out.x;have z0:=lB R0.out.x;go_wp2_with fail;refine(HL.out W0).mono ?_;rintro e w1 ⟨rfl,hb⟩;have R1:=LH (R0.out.below hb);clear hb c0 z0 R0;have c1:=bC R1.out.x;have z1:=lB R1.out.x;go_wp2_with fail;refine(HW.out w1 R1.out.sl.sl).mono ?_;rintro e w2 ⟨rfl,hb⟩;have R2:=LH (R1.out.below hb);clear hb c1 z1 R1;have c2:=bC R2.out.x;have z2:=lB R2.out.x;go_wp2_with fail;refine(HG.out w2 R2.out.sl.sl).mono ?_;rintro e w3 ⟨rfl,hb⟩;have R3:=LH (R2.out.below hb);clear hb c2 z2 R2 HL HW HG;have c3:=bC R3.out.x;have f3:=bF R3.out.x;have z3:=lB R3.out.x;by_cases hg0:gg=0
 ·have hg1: (gg == 0) =true:=by simpa using hg0
  by_cases h8k: (r.length:Int) =8*k
  ·have h8b: ((r.length:Int) == 8*k) =true:=by simpa using h8k
   have HPre:=LH (fun ps s h=>HPC.out ps s h hg0 h8k);clear hg0 h8k HPC HPN;go_wp2_with fail;refine(HCm.out w3 R3.out.sl).mono ?_;rintro e w4 ⟨ps,s,As,cs,rfl,hrun,hs4,hb⟩;have HQ:=LH (HPre.out ps s hrun);have R4:=LH (R3.out.box (A2:=As) (c2:=cs) hb hs4);have cx:=bC (bB R3.out.x hb);have fx:=bF (bB R3.out.x hb);have zx:=lB (bB R3.out.x hb);clear hb hs4 hrun c3 f3 z3 R3 HPre;go_upto_region 10 with fail;generalize (((w4.setCell ⟨w.heap.size,0,none⟩ (.int .i64 k)).setCell ⟨w.heap.size,1,none⟩ (.int .i64 l)).setCell ⟨w.heap.size,2,none⟩ (.slice As s.length cs)) =w5 at R4⊢;clear cx fx zx;obtain⟨Z,hZ⟩ : ∃Z,Z=addR s lf c:=⟨_,rfl⟩;have HA1:=LH (HAd.out w5 As cs s R4.out.sl HQ.out);have HPz:=LH (fun W A cp h=>HP.out W s A cp HQ.out h);rw [←hZ] at HA1 HPz;clear hZ;have ct:=bC R4.out.x;have ft:=bF R4.out.x;have zt:=lB R4.out.x;go_wp2_with fail;refine HA1.out.mono ?_;intro e wa hst;obtain⟨A5,cp5,rfl,hs5,hb⟩:=hst.at_ R4.out.sl.n;have R6:=LH (R4.out.box2 (A2:=A5) (c2:=cp5) hb hs5);have cx:=bC (bB R4.out.x hb);have fx:=bF (bB R4.out.x hb);have zx:=lB (bB R4.out.x hb);clear ct ft zt hb hs5 hst HA1;go_upto_region 11 with fail;generalize ((wa.setCell ⟨w.heap.size,1,none⟩ (.int .i64 l)).setCell ⟨w.heap.size,2,none⟩ (.slice A5 Z.length cp5)) =wb at R6⊢;clear cx fx zx;have cx:=bC R6.out.x;have fx:=bF R6.out.x;have zx:=lB R6.out.x;have cy:=bC R6.out.y;have fy:=bF R6.out.y;have zy:=lB R6.out.y;go_wp2_with fail;have E1:=LH R6.out.done;clear cx fx zx cy fy zy;generalize (((wb.setCell ⟨w.heap.size+1,0,none⟩ (.int .i64 k)).setCell ⟨w.heap.size+1,1,none⟩ (.int .i64 l)).setCell ⟨w.heap.size+1,2,none⟩ (.slice A5 Z.length cp5)) =wz at E1⊢;have ce:=bC E1.out.y;have fe:=bF E1.out.y;have ze:=lB E1.out.y;exact bR (v:=.tuple #[.agg #[.int .i64 k,.int .i64 l,.slice A5 Z.length cp5],.int .i64 0]) (by simp only [results,Tryz.results86];go_simp) rfl (HPz.out _ _ _ E1.out)
  ·have h8b: ((r.length:Int) == 8*k) =false:=by simpa using h8k
   have HQ:=LH (HPN.out (.inr h8k));clear hg0 h8k HPC HPN HCm c3 f3 z3;have c3:=bC R3.out.x;have z3:=lB R3.out.x;obtain⟨Z,hZ⟩ : ∃Z,Z=addR r lf c:=⟨_,rfl⟩;have HA1:=LH (HAd.out w3 A cap r R3.out.sl HQ.out);have HPz:=LH (fun W A cp h=>HP.out W r A cp HQ.out h);rw [←hZ] at HA1 HPz;clear hZ;have ct:=bC R3.out.x;have ft:=bF R3.out.x;have zt:=lB R3.out.x;go_wp2_with fail;refine HA1.out.mono ?_;intro e wa hst;obtain⟨A5,cp5,rfl,hs5,hb⟩:=hst.at_ R3.out.sl.n;have R6:=LH (R3.out.box2 (A2:=A5) (c2:=cp5) hb hs5);have cx:=bC (bB R3.out.x hb);have fx:=bF (bB R3.out.x hb);have zx:=lB (bB R3.out.x hb);clear ct ft zt hb hs5 hst HA1;go_upto_region 11 with fail;generalize ((wa.setCell ⟨w.heap.size,1,none⟩ (.int .i64 l)).setCell ⟨w.heap.size,2,none⟩ (.slice A5 Z.length cp5)) =wb at R6⊢;clear cx fx zx;have cx:=bC R6.out.x;have fx:=bF R6.out.x;have zx:=lB R6.out.x;have cy:=bC R6.out.y;have fy:=bF R6.out.y;have zy:=lB R6.out.y;go_wp2_with fail;have E1:=LH R6.out.done;clear cx fx zx cy fy zy;generalize (((wb.setCell ⟨w.heap.size+1,0,none⟩ (.int .i64 k)).setCell ⟨w.heap.size+1,1,none⟩ (.int .i64 l)).setCell ⟨w.heap.size+1,2,none⟩ (.slice A5 Z.length cp5)) =wz at E1⊢;have ce:=bC E1.out.y;have fe:=bF E1.out.y;have ze:=lB E1.out.y;exact bR (v:=.tuple #[.agg #[.int .i64 k,.int .i64 l,.slice A5 Z.length cp5],.int .i64 0]) (by simp only [results,Tryz.results86];go_simp) rfl (HPz.out _ _ _ E1.out)
 ·have hg1: (gg == 0) =false:=by simpa using hg0
  have HQ:=LH (HPN.out (.inl hg0));clear hg0 HPC HPN HCm c3 f3 z3;have c3:=bC R3.out.x;have z3:=lB R3.out.x;obtain⟨Z,hZ⟩ : ∃Z,Z=addR r lf c:=⟨_,rfl⟩;have HA1:=LH (HAd.out w3 A cap r R3.out.sl HQ.out);have HPz:=LH (fun W A cp h=>HP.out W r A cp HQ.out h);rw [←hZ] at HA1 HPz;clear hZ;have ct:=bC R3.out.x;have ft:=bF R3.out.x;have zt:=lB R3.out.x;go_wp2_with fail;refine HA1.out.mono ?_;intro e wa hst;obtain⟨A5,cp5,rfl,hs5,hb⟩:=hst.at_ R3.out.sl.n;have R6:=LH (R3.out.box2 (A2:=A5) (c2:=cp5) hb hs5);have cx:=bC (bB R3.out.x hb);have fx:=bF (bB R3.out.x hb);have zx:=lB (bB R3.out.x hb);clear ct ft zt hb hs5 hst HA1;go_upto_region 11 with fail;generalize ((wa.setCell ⟨w.heap.size,1,none⟩ (.int .i64 l)).setCell ⟨w.heap.size,2,none⟩ (.slice A5 Z.length cp5)) =wb at R6⊢;clear cx fx zx;have cx:=bC R6.out.x;have fx:=bF R6.out.x;have zx:=lB R6.out.x;have cy:=bC R6.out.y;have fy:=bF R6.out.y;have zy:=lB R6.out.y;go_wp2_with fail;have E1:=LH R6.out.done;clear cx fx zx cy fy zy;generalize (((wb.setCell ⟨w.heap.size+1,0,none⟩ (.int .i64 k)).setCell ⟨w.heap.size+1,1,none⟩ (.int .i64 l)).setCell ⟨w.heap.size+1,2,none⟩ (.slice A5 Z.length cp5)) =wz at E1⊢;have ce:=bC E1.out.y;have fe:=bF E1.out.y;have ze:=lB E1.out.y;exact bR (v:=.tuple #[.agg #[.int .i64 k,.int .i64 l,.slice A5 Z.length cp5],.int .i64 0]) (by simp only [results,Tryz.results86];go_simp) rfl (HPz.out _ _ _ E1.out)
def Do13Post [Zone] (l:Nat) (k:Int) (r:List Nd) (o:Op3) (w:World) (e:Ending) (w':World) :Prop:=
 ∃(s:List Nd) (A:Option Addr) (cp:Nat) (n:Int),e=.returned (.tuple #[.agg #[.int .i64 k,.int .i64 l,.slice A s.length cp],.int .i64 n])∧DoTo l k r o s n∧SlZ w' 154 encN A s∧Below w.heap.size w w'
theorem ref13_InsertC [Zone] (w:World) (l:Nat) (k:Int) (A:Option Addr) (cap:Nat) (r:List Nd) (x c:Int) (hl:1≤l∧l≤48) (hS:SlZ w 154 encN A r) (hf:Fits l r) (hI:ints r) (hlen:r.length≤999) (hk:1≤k) (hk2:k≤1048576) (h8: (r.length:Int)≤8*k) :
 Calls Tryz.prog 86 #[.agg #[.int .i64 k,.int .i64 l,.slice A r.length cap],.int .i64 x,.int .i64 c] w (Ins13Post l k r x c w):=by
 by_cases he:insErr l r x c=0
 ·exact ref13_Insert w l k A cap r x c hl hS hf hI hlen hk hk2 h8 he
 ·exact ref13_Insert_no w l k A cap r x c hl hS hf hI hlen he
structure DoR [Zone] (w:World) (l:Nat) (k:Int) (r:List Nd) (A:Option Addr) (c:Nat) (o:Op3) (W:World) :Prop where
 x:W.heap[w.heap.size]? =some (.cells #[.int .i64 k,.int .i64 l,.slice A r.length c] 35 (0,0))
 o:W.heap[w.heap.size+1]? =some (.cells #[.int .i64 o.1,.int .i64 o.2.1,.int .i64 o.2.2] 132 (0,0))
 y:W.heap[w.heap.size+2]? =some (.cells #[.int .i64 0,.int .i64 0,.slice none 0 0] 35 (0,0))
 sl:SlZ W 154 encN A r
 b:Below w.heap.size w W
theorem dig_store {W:World} {q:Nat} {a b c:Value} (h:W.heap[q]? =some (.cells #[a,b,c] 35 (0,0))) (u v x:Value) : (((W.setCell ⟨q,0,none⟩ u).setCell ⟨q,1,none⟩ v).setCell ⟨q,2,none⟩ x).heap[q]? =some (.cells #[u,v,x] 35 (0,0)):=zH (i:=2) (zH (i:=1) (zH (i:=0) h u) v) x
theorem dig_slT [Zone] {W:World} {q:Nat} {cs:Array Value} {A:Option Addr} {L:List Nd} (h:W.heap[q]? =some (.cells cs 35 (0,0))) (s:SlZ W 154 encN A L) (u v x:Value) :SlZ (((W.setCell ⟨q,0,none⟩ u).setCell ⟨q,1,none⟩ v).setCell ⟨q,2,none⟩ x) 154 encN A L:=
 ((s.setCellT (t:=35) (.of h) (by decide)).setCellT (t:=35) (TypeAt.setCell (.of h)) (by decide)).setCellT (t:=35) (TypeAt.setCell (TypeAt.setCell (.of h))) (by decide)
theorem dig_below {w W:World} {q:Nat} (h:Below w.heap.size w W) (hq:w.heap.size≤q) (u v x:Value) :Below w.heap.size w (((W.setCell ⟨q,0,none⟩ u).setCell ⟨q,1,none⟩ v).setCell ⟨q,2,none⟩ x):=((h.setCell (p:=⟨q,0,none⟩) hq u).setCell (p:=⟨q,1,none⟩) hq v).setCell (p:=⟨q,2,none⟩) hq x
theorem ref13_Do [Zone] (w:World) (l:Nat) (k:Int) (A:Option Addr) (cap:Nat) (r:List Nd) (o:Op3) (hl:1≤l∧l≤48) (hS:SlZ w 154 encN A r) (hf:Fits l r) (hI:ints r) (hlen:r.length≤999) (hk:1≤k) (hk2:k≤1048576) (h8: (r.length:Int)≤8*k) :
 Calls Tryz.prog 116 #[.agg #[.int .i64 k,.int .i64 l,.slice A r.length cap],.agg #[.int .i64 o.1,.int .i64 o.2.1,.int .i64 o.2.2]] w (Do13Post l k r o w):=by
 have HZn:=LH hS.n;have HCm:=LH (fun W h=>ref13_Compress W l k A cap r hl h hf hI hlen hk hk2);have HIn:=LH (fun W h=>ref13_InsertC W l k A cap r o.2.1 o.2.2 hl h hf hI hlen hk hk2 h8);unfold Comp13Post at HCm;unfold Ins13Post at HIn;have R0:Hid (DoR w l k r A cap o (((w.alloc (.cells #[.int .i64 k,.int .i64 l,.slice A r.length cap] 35)).alloc (.cells #[.int .i64 o.1,.int .i64 o.2.1,.int .i64 o.2.2] 132)).alloc (.cells #[.int .i64 0,.int .i64 0,.slice none 0 0] 35))):=LH ⟨(heap_new_lt _ _ _ (by simp;omega)).trans ((heap_new_lt _ _ _ (by simp)).trans (heap_alloc_new w _)),(heap_new_lt _ _ _ (by simp)).trans (heap_new_at (w.alloc _) _ _ (by simp)),heap_new_at ((w.alloc _).alloc _) _ _ (by simp),((hS.alloc _).alloc _).alloc _,bE⟩;clear hS hf hI
 go_enter Tryz.func116,Tryz.ntmps116
 go_upto_region 1 with fail;generalize (((w.alloc (.cells #[.int .i64 k,.int .i64 l,.slice A r.length cap] 35)).alloc (.cells #[.int .i64 o.1,.int .i64 o.2.1,.int .i64 o.2.2] 132)).alloc (.cells #[.int .i64 0,.int .i64 0,.slice none 0 0] 35)) =W0 at R0⊢;have c0:=bC R0.out.x;have z0:=lB R0.out.x;have d0:=bC R0.out.o;have y0:=lB R0.out.o;by_cases h1:o.1=1
 ·have h1': (o.1 == 1) =true:=by simpa using h1
  have H1:=LH h1;clear h1;go_wp2_with fail;refine(HCm.out W0 R0.out.sl).mono ?_;rintro e w1 ⟨ps,s,As,cs,rfl,hrun,hs,hb⟩;have HRn:=LH hrun;clear c0 z0 d0 y0 hrun;have ky:=bB R0.out.y hb;have cy:=bC ky;have fy:=bF ky;have zy:=lB ky;go_wp2_with fail;have Y:=LH (dig_store ky (.int .i64 k) (.int .i64 l) (.slice As s.length cs));have S:=LH (dig_slT ky hs (.int .i64 k) (.int .i64 l) (.slice As s.length cs));have B:=LH (dig_below (Below.then_ R0.out.b hb) (q:=w.heap.size+2) (by simp) (.int .i64 k) (.int .i64 l) (.slice As s.length cs));clear cy fy zy ky;generalize (((w1.setCell ⟨w.heap.size+2,0,none⟩ (.int .i64 k)).setCell ⟨w.heap.size+2,1,none⟩ (.int .i64 l)).setCell ⟨w.heap.size+2,2,none⟩ (.slice As s.length cs)) =wz at Y S B⊢;have ce:=bC Y.out;have fe:=bF Y.out;have ze:=lB Y.out;exact bR (v:=.tuple #[.agg #[.int .i64 k,.int .i64 l,.slice As s.length cs],.int .i64 ps.length]) (by simp only [results,Tryz.results116];go_simp) rfl (show Do13Post l k r o w _ _ from⟨s,As,cs,ps.length,rfl,.inl ⟨H1.out,ps,HRn.out,rfl⟩,S.out,B.out⟩)
 ·have h1': (o.1 == 1) =false:=by simpa using h1
  by_cases h2:o.1=2
  ·have h2': (o.1 == 2) =true:=by simpa using h2
   have H2:=LH h2;clear h1 h2;have f0:=bF R0.out.x;have cy:=bC R0.out.y;have fy:=bF R0.out.y;have zy:=lB R0.out.y;have ky:Hid ((W0.setCell ⟨w.heap.size,2,none⟩ (.slice none 0 0)).heap[w.heap.size+2]? =some (.cells #[.int .i64 0,.int .i64 0,.slice none 0 0] 35 (0,0))):=LH ((Below.heap_setCell _ _ _ _ (by simp)).trans R0.out.y);have Y:=LH (dig_store ky.out (.int .i64 k) (.int .i64 l) (.slice none 0 0));have B:=LH (dig_below (Below.setCell (p:=⟨w.heap.size,2,none⟩) R0.out.b (by simp) (.slice none 0 0)) (q:=w.heap.size+2) (by simp) (.int .i64 k) (.int .i64 l) (.slice none 0 0));go_wp2_with fail;clear c0 z0 d0 y0 f0 cy fy zy;generalize (((((W0.setCell ⟨w.heap.size,2,none⟩ (.slice none 0 0)).setCell ⟨w.heap.size+2,0,none⟩ (.int .i64 k)).setCell ⟨w.heap.size+2,1,none⟩ (.int .i64 l)).setCell ⟨w.heap.size+2,2,none⟩ (.slice none 0 0))) =wz at Y B⊢;have ce:=bC Y.out;have fe:=bF Y.out;have ze:=lB Y.out;exact bR (v:=.tuple #[.agg #[.int .i64 k,.int .i64 l,.slice none 0 0],.int .i64 0]) (by simp only [results,Tryz.results116];go_simp) rfl (show Do13Post l k r o w _ _ from⟨[],none,0,0,rfl,.inr (.inl ⟨H2.out,rfl,rfl⟩),.nil (Nat.le_trans HZn.out B.out.size),B.out⟩)
  ·have h2': (o.1 == 2) =false:=by simpa using h2
   have H12:=LH (And.intro h1 h2);clear h1 h2;go_wp2_with fail;refine(HIn.out W0 R0.out.sl).mono ?_;rintro e w1 ⟨s,As,cs,rfl,hto,hs,hb⟩;have HTo:=LH hto;clear c0 z0 d0 y0 hto;have ky:=bB R0.out.y hb;have cy:=bC ky;have fy:=bF ky;have zy:=lB ky;go_wp2_with fail;have Y:=LH (dig_store ky (.int .i64 k) (.int .i64 l) (.slice As s.length cs));have S:=LH (dig_slT ky hs (.int .i64 k) (.int .i64 l) (.slice As s.length cs));have B:=LH (dig_below (Below.then_ R0.out.b hb) (q:=w.heap.size+2) (by simp) (.int .i64 k) (.int .i64 l) (.slice As s.length cs));clear cy fy zy ky;generalize (((w1.setCell ⟨w.heap.size+2,0,none⟩ (.int .i64 k)).setCell ⟨w.heap.size+2,1,none⟩ (.int .i64 l)).setCell ⟨w.heap.size+2,2,none⟩ (.slice As s.length cs)) =wz at Y S B⊢;have ce:=bC Y.out;have fe:=bF Y.out;have ze:=lB Y.out;exact bR (v:=.tuple #[.agg #[.int .i64 k,.int .i64 l,.slice As s.length cs],.int .i64 (insErr l r o.2.1 o.2.2)]) (by simp only [results,Tryz.results116];go_simp) rfl (show Do13Post l k r o w _ _ from⟨s,As,cs,(insErr l r o.2.1 o.2.2),rfl,.inr (.inr ⟨H12.out.1,H12.out.2,HTo.out,rfl⟩),S.out,B.out⟩)
def Low14Post [Zone] (l:Nat) (k2:Int) (r:List Nd) (w:World) (e:Ending) (w':World) :Prop:=
 ∃(ps:List Int) (s:List Nd) (A:Option Addr) (c:Nat),e=.returned (.tuple #[.agg #[.int .i64 k2,.int .i64 l,.slice A s.length c],.int .i64 0])∧RunTo l (sumR r / k2) r ps s∧SlZ w' 154 encN A s∧Below w.heap.size w w'
theorem ref14_Lower [Zone] (w:World) (l:Nat) (k k2:Int) (A:Option Addr) (cap:Nat) (r:List Nd) (hl:1≤l∧l≤48) (hS:SlZ w 154 encN A r) (hf:Fits l r) (hI:ints r) (hlen:r.length≤999) (hk:1≤k2) (hkk:k2≤k) (hk2:k≤1048576) :
 Calls Tryz.prog 99 #[.agg #[.int .i64 k,.int .i64 l,.slice A r.length cap],.int .i64 k2] w (Low14Post l k2 r w):=by
 have HRn:=LH (fun W h=>ref12_Run W l k2 A cap r hl h hf hI hlen hk (by omega));have SA:=LH hS;have g1:decide (k2<1) =false:=by simp;omega
 have g2:decide (k<k2) =false:=by simp;omega
 have X0:Hid (((w.alloc (.cells #[.int .i64 k,.int .i64 l,.slice A r.length cap] 35)).alloc (.cells #[.int .i64 0,.int .i64 0,.slice none 0 0] 35)).heap[w.heap.size]? =some (.cells #[.int .i64 k,.int .i64 l,.slice A r.length cap] 35 (0,0))):=LH ((heap_new_lt _ _ _ (by simp)).trans (heap_alloc_new w _));have Y0:Hid (((w.alloc (.cells #[.int .i64 k,.int .i64 l,.slice A r.length cap] 35)).alloc (.cells #[.int .i64 0,.int .i64 0,.slice none 0 0] 35)).heap[w.heap.size+1]? =some (.cells #[.int .i64 0,.int .i64 0,.slice none 0 0] 35 (0,0))):=LH (heap_new_at (w.alloc _) _ _ (by simp));have B0:Hid (Below w.heap.size w ((w.alloc (.cells #[.int .i64 k,.int .i64 l,.slice A r.length cap] 35)).alloc (.cells #[.int .i64 0,.int .i64 0,.slice none 0 0] 35))):=LH bE;clear hS hf hI
 go_enter Tryz.func99,Tryz.ntmps99
 go_upto_region 1 with fail;generalize (w.alloc (.cells #[.int .i64 k,.int .i64 l,.slice A r.length cap] 35)).alloc (.cells #[.int .i64 0,.int .i64 0,.slice none 0 0] 35) =W0 at X0 Y0 B0⊢;have S0:=LH (SA.out.below B0.out);have c0:=bC X0.out;have z0:=lB X0.out;go_wp2_with fail;refine(HRn.out W0 S0.out).mono ?_;rintro e w1 ⟨ps,s,As,cs,Ap,cp,rfl,hrun,hs,hb⟩;have HRun:=LH hrun;have ky:=LH (bB (bB Y0.out hb) ((Below.refl w1.heap.size w1).alloc (Nat.le_refl _) (.cells #[.int .i64 l,.slice As s.length cs] 33)));have V2:=LH (heap_alloc_new w1 (.cells #[.int .i64 l,.slice As s.length cs] 33));have B2:=LH (Below.allocW (Below.then_ B0.out hb) (.cells #[.int .i64 l,.slice As s.length cs] 33));have S2:=LH (hs.alloc (.cells #[.int .i64 l,.slice As s.length cs] 33));clear hrun hs hb c0 z0 X0 Y0 B0 S0 SA HRn;go_upto_region 4 with fail;obtain⟨q,hq⟩ : ∃q,q=w1.heap.size:=⟨_,rfl⟩;rw [←hq] at V2⊢;generalize w1.alloc (.cells #[.int .i64 l,.slice As s.length cs] 33) =w2 at ky V2 B2 S2⊢;clear hq;have cv:=bC V2.out;have zv:=lB V2.out;have cy:=bC ky.out;have fy:=bF ky.out;have zy:=lB ky.out;go_wp2_with fail;have Y:=LH (dig_store ky.out (.int .i64 k2) (.int .i64 l) (.slice As s.length cs));have S:=LH (dig_slT ky.out S2.out (.int .i64 k2) (.int .i64 l) (.slice As s.length cs));have B:=LH (dig_below B2.out (q:=w.heap.size+1) (by simp) (.int .i64 k2) (.int .i64 l) (.slice As s.length cs));clear cv zv cy fy zy;generalize (((w2.setCell ⟨w.heap.size+1,0,none⟩ (.int .i64 k2)).setCell ⟨w.heap.size+1,1,none⟩ (.int .i64 l)).setCell ⟨w.heap.size+1,2,none⟩ (.slice As s.length cs)) =wz at Y S B⊢;have ce:=bC Y.out;have fe:=bF Y.out;have ze:=lB Y.out;exact bR (v:=.tuple #[.agg #[.int .i64 k2,.int .i64 l,.slice As s.length cs],.int .i64 0]) (by simp only [results,Tryz.results99];go_simp) rfl (show Low14Post l k2 r w _ _ from⟨ps,s,As,cs,rfl,HRun.out,S.out,B.out⟩)
def encB8:Enc UInt8 1:=⟨fun b=> [.int .u8 (b.toNat:Int)],fun _=>rfl,by intro x u hu;simp at hu;subst hu;rfl⟩
theorem tyU8:SliceTy Tryz.prog 129 5 1 1 (.int .u8 0):=⟨Tryz.underlying129,by kernel_rfl,rfl,by decide⟩
def oneB (n:Nat) :List UInt8:=if h:128≤n then UInt8.ofNat (n % 128+128) :: oneB (n / 128) else [UInt8.ofNat n]
termination_by n
decreasing_by omega
theorem oneB_ge {n:Nat} (h:128≤n) :oneB n=UInt8.ofNat (n % 128+128) :: oneB (n / 128):=by rw [oneB,dif_pos h]
theorem oneB_lt {n:Nat} (h: ¬128≤n) :oneB n= [UInt8.ofNat n]:=by rw [oneB,dif_neg h]
theorem oneB_len: ∀(k n:Nat),n<128^k→1≤k→(oneB n).length≤k:=by
 intro k
 induction k with
 |zero=>intro n _ h;omega
 |succ k ih=>
  intro n hn _;by_cases h:128≤n
  ·rw [oneB_ge h,List.length_cons]
   have h1:n / 128<128^k:=by rw [Nat.pow_succ] at hn;exact Nat.div_lt_of_lt_mul (by rw [Nat.mul_comm];exact hn)
   have h2:1≤k:=by
    rcases Nat.eq_zero_or_pos k with rfl|h2
    ·simp at hn;omega
    ·exact h2
   have:=ih _ h1 h2;omega
  ·rw [oneB_lt h];simp
theorem oneB_le {n:Nat} (h:n≤9223372036854775807) : (oneB n).length≤9:=oneB_len 9 n (by have: (128:Nat) ^9=9223372036854775808:=by decide
                                                                                        omega) (by decide)
theorem oneB_pos (n:Nat) :1≤(oneB n).length:=by
 rw [oneB]
 split <;> simp
theorem or_128: ∀x:Fin 256,x.val ||| 128=x.val % 128+128:=by decide
theorem byte_or (m:Nat) :bits BinOp.or IntKind.u8 (IntKind.u8.wrap (m:Int)) 128= (((UInt8.ofNat (m % 128+128)).toNat:Nat) :Int):=by
 have hw:IntKind.u8.wrap (m:Int) = ((m % 256:Nat) :Int):=by rw [IntKind.wrap_u8];omega
 have h:=(bits_nat .u8 8 (by decide) (fun n h0 h1=>by rw [IntKind.wrap_u8];omega) (m % 256) 128 (by omega) (by decide)).2;rw [hw];rw [show ((128:Int)) = ((128:Nat) :Int) from rfl,h,or_128 ⟨m % 256,by omega⟩];simp only [UInt8.toNat_ofNat']
 congr 1
 omega
theorem byte_or' (m:Nat) :bits BinOp.or IntKind.u8 ((m:Int) % 256) 128= (((UInt8.ofNat (m % 128+128)).toNat:Nat) :Int):=by
 have h:=byte_or m
 rwa [IntKind.wrap_u8] at h
theorem byte_one' {m:Nat} (h: ¬128≤m) : (m:Int) = (((UInt8.ofNat m).toNat:Nat) :Int):=by
 rw [UInt8.toNat_ofNat'];omega
theorem vary_one (w:World) (base:Nat) (v:Value) (l:List UInt8) (n:Nat) (ho:Own w base 5 encB8 v l) (hb:base≤w.heap.size) (hl:l.length≤67108864) (hn:n≤9223372036854775807) :
 Calls Tryz.prog 175 #[v,.int .i64 n] w fun e w'=>∃v',e=.returned v'∧Own w' base 5 encB8 v' (l ++ oneB n)∧Below base w w':=by
 have HO:=LH ho;have HL:=LH (oneB_le hn);clear ho
 go_enter Tryz.func175,Tryz.ntmps175
 go_wp2_with fail
 go_loopw [0,1] (fun u i wr=>∃(m:Nat) (pre:List UInt8),i=.int .i64 m∧m≤n∧Own wr base 5 encB8 u (l ++ pre)∧pre ++ oneB m=oneB n∧Below base w wr) (fun _ i _=>(intOf i).toNat)
 case atStart=>exact⟨n, [],rfl,Nat.le_refl _,by simpa using HO.out,rfl,Below.refl _ _⟩
 case round=>
  obtain⟨m,pre,rfl,hm,ho,he,hB⟩:=hrel
  have hpl:pre.length≤8:=by
   have h1:=HL.out;have h2:=oneB_pos m;rw [←he,List.length_append] at h1;omega
  have HB:=LH hB;have HE:=LH he;obtain⟨Ao,co,rfl,_⟩:=ho.form;have HOr:=LH ho;have sz:=hB.size;clear ho he hB;by_cases h:128≤m
  ·have h1: (128:Int)≤(m:Int):=by omega
   have HE2:Hid ((pre ++ [UInt8.ofNat (m % 128+128)]) ++ oneB (m / 128) =oneB n):=LH (by rw [←HE.out,oneB_ge h];simp);have hbo:=byte_or' m;obtain⟨L,hL⟩ : ∃L,L=l ++ pre:=⟨_,rfl⟩;have hLl:L.length≤67108872:=by rw [hL,List.length_append];omega
   rw [←hL] at HOr⊢;have HLe:=LH hL;clear hL;generalize UInt8.ofNat (m % 128+128) =b at hbo HE2;go_wp2_with ((at_builtin;go_loud (refine wpList_push tyU8 rfl _ _ rfl encB8 wr base (.slice Ao L.length co) L rfl HOr.out b (by go_simp) (by simp [encB8,hbo]) ?c1 ?c2 ?c3 ?c4)))
   case c1=>omega
   case c2=>unfold maxLen;omega
   case c3=>omega
   case c4=>
    intro v' w' ho' _ _ _ hb' _;have HO2:=LH ho';have HB2:=LH (HB.out.trans hb');have hsz:=hb'.size;clear ho' hb';go_wp2_with fail;go_roundw
    case rel=>exact⟨m / 128,pre ++ [b],by go_num,by omega,by have:=HO2.out;rw [HLe.out] at this;simpa using this,HE2.out,HB2.out⟩
    case measure=>simp [intOf];omega
  ·have h1: ¬(128:Int)≤(m:Int):=by omega
   have HE2:Hid (pre ++ [UInt8.ofNat m] =oneB n):=LH (by rw [←HE.out,oneB_lt h]);have hbo:=byte_one' h;obtain⟨L,hL⟩ : ∃L,L=l ++ pre:=⟨_,rfl⟩;have hLl:L.length≤67108872:=by rw [hL,List.length_append];omega
   rw [←hL] at HOr⊢;have HLe:=LH hL;clear hL;generalize UInt8.ofNat m=b at hbo HE2;go_wp2_with ((at_builtin;go_loud (refine wpList_push tyU8 rfl _ _ rfl encB8 wr base (.slice Ao L.length co) L rfl HOr.out b (by go_simp) (by simp [encB8,hbo]) ?d1 ?d2 ?d3 ?d4)))
   case d1=>omega
   case d2=>unfold maxLen;omega
   case d3=>omega
   case d4=>
    intro v' w' ho' _ _ _ hb' _;have HO2:=LH ho';have HB2:=LH (HB.out.trans hb');clear ho' hb';go_wp2_with fail;exact bR (v:=v') (by simp only [results,Tryz.results175];go_simp) rfl ⟨_,rfl,by rw [←HE2.out,←List.append_assoc,←HLe.out];exact HO2.out,HB2.out⟩
def putB (L:List Int) :List UInt8:=L.flatMap fun x=>oneB x.toNat
theorem putB_nil:putB [] = []:=rfl
theorem putB_take {L:List Int} {q:Nat} (h:q<L.length) :putB (L.take (q+1)) =putB (L.take q) ++ oneB (L[q]).toNat:=by
 unfold putB;rw [List.take_succ_eq_append_getElem h,List.flatMap_append];simp
theorem putB_len: ∀{L:List Int},(∀x∈L,x≤9223372036854775807)→(putB L).length≤9*L.length:=by
 intro L
 induction L with
 |nil=>intro _;simp [putB]
 |cons x L ih=>
  intro h;have h1:=ih fun y hy=>h y (List.mem_cons_of_mem _ hy);have h2: (oneB x.toNat).length≤9:=oneB_le (by have:=h x (List.mem_cons_self ..);omega);have h3:putB (x :: L) =oneB x.toNat ++ putB L:=by simp [putB]
  rw [h3,List.length_append,List.length_cons];omega
theorem putB_pos {L:List Int} (h:0<L.length) :0< (putB L).length:=by
 match L,h with
 |x :: L,_=>
  have h3:putB (x :: L) =oneB x.toNat ++ putB L:=by simp [putB]
  have:=oneB_pos x.toNat;rw [h3,List.length_append];omega
theorem bytes_back {w:World} {b off cap:Nat} {l:List UInt8} {base:Nat} (ho:Own w base 5 encB8 (.slice (some ⟨b,off,none⟩) l.length cap) l) :
 ∀(j:Nat) (hj:j<l.length),w.cell? (Addr.add ⟨b,off,none⟩ j) =some (.int .u8 (l[j].toNat:Int)):=by
 intro j hj;obtain⟨b',off',he,_,hc⟩:=ho.sl.at_ hj
 injection he with he
 injection he with h1 h2
 subst h1 h2;have h3:=hc 0 (.int .u8 (l[j].toNat:Int)) rfl
 rw [show Addr.add ⟨b,off,none⟩ j= ⟨b,off+j,none⟩ by
  unfold Addr.add;split <;> simp_all]
 simpa using h3
theorem vary_Put (w:World) (base:Nat) (v:Value) (L:List Int) (ho:Own w base 3 encZ v L) (hi: ∀x∈L,i64 x) (hl:L.length≤65536) (h0:0<L.length) :
 Calls Tryz.prog 133 #[v] w fun e w'=>(∃t,e=.returned (.tuple #[.string t,.int .i64 (if L.all (fun x=>decide (0≤x)) =true then 0 else 2)])∧(L.all (fun x=>decide (0≤x)) =true→t= ⟨(putB L).toArray⟩))∧Below w.heap.size w w':=by
 obtain⟨A,c,rfl,_⟩:=ho.form;have HO:=LH (ho.base_le (Nat.zero_le _));have HI:=LH hi;have HP:=LH (putB_pos h0);clear ho hi
 go_enter Tryz.func133,Tryz.ntmps133
 go_wp2_with fail
 go_loopw [4,9] (fun u j wr=>∃q:Nat,q≤L.length∧j=.int .i64 q∧Own wr w.heap.size 5 encB8 u (putB (L.take q))∧(∀x∈L.take q,0≤x)∧Below w.heap.size w wr) (fun _ j _=>L.length - (intOf j).toNat)
 case atStart=>exact⟨0,Nat.zero_le _,rfl,Own.nil _ _ _ _,by simp,Below.refl _ _⟩
 case round=>
  obtain⟨q,hq,rfl,ho,hp,hB⟩:=hrel;have HB:=LH hB;have HR:=LH (HO.out.below hB);have HU:=LH ho;have HPq:=LH hp;have sz:=hB.size;clear ho hp hB;by_cases hlt:q<L.length
  ·have hqi: (q:Int) < (L.length:Int):=by omega
   obtain⟨b,off,rfl,hb,hc⟩:=HR.out.sl.at_ hlt;have d0:=hc 0 (.int .i64 L[q]) rfl;simp only [Nat.mul_one,Nat.add_zero] at d0;have hx1:=HI.out _ (List.getElem_mem hlt);by_cases hx:L[q] <0
   ·have hall:L.all (fun x=>decide (0≤x)) =false:=by
     rw [List.all_eq_false];exact⟨L[q],List.getElem_mem hlt,by simpa using hx⟩
    clear hc;generalize L[q] =x at*;go_wp2_with fail
    all_goals exact bR (v:=.tuple #[.string ⟨#[]⟩,.int .i64 2]) (by simp only [results,Tryz.results133];go_simp) rfl ⟨⟨_,rfl⟩,HB.out⟩
   ·have HTk:=LH (putB_take hlt)
    have HPn:Hid (∀x∈L.take (q+1),0≤x):=LH (by
     rw [List.take_succ_eq_append_getElem hlt];intro x hx';rcases List.mem_append.1 hx' with h|h
     ·exact HPq.out x h
     ·simp only [List.mem_singleton] at h;subst h;omega)
    obtain⟨n,hn⟩ : ∃n:Nat,L[q] = (n:Int):=⟨L[q].toNat,by omega⟩;have hn9:n≤9223372036854775807:=by have:=hx1.2;omega
    have hn0:decide ((n:Int) <0) =false:=by simp
    rw [hn] at d0 HTk
    have hlq: (putB (L.take q)).length≤67108864:=by
     have h1:=putB_len (L:=L.take q) fun y hy=>(HI.out y (List.mem_of_mem_take hy)).2;have h2: (L.take q).length≤65536:=by rw [List.length_take];omega
     omega
    clear hc hx hx1 hn;go_wp2_with fail;refine(vary_one wr w.heap.size _ (putB (L.take q)) n HU.out sz hlq hn9).mono ?_;rintro e w1 ⟨v1,rfl,ho1,hb1⟩;have HO1:=LH ho1;have HB1:=LH (HB.out.trans hb1);clear ho1 hb1;go_wp2_with fail;go_roundw
    case rel=>exact⟨q+1,by omega,by go_num,by rw [HTk.out];exact HO1.out,HPn.out,HB1.out⟩
    case measure=>simp [intOf];omega
  ·obtain rfl:q=L.length:=by omega
   rw [List.take_length] at HU HPq;have hqi:decide ((L.length:Int) < (L.length:Int)) =false:=by simp
   have hall:L.all (fun x=>decide (0≤x)) =true:=by
    rw [List.all_eq_true];intro x hx
    simpa using HPq.out x hx
   obtain⟨bb,oo,cc,rfl,_⟩:=own_at0 HU.out HP.out;have hcv:=run_convert_bytes_back (P:=Tryz.prog) wr 129 9 5 ⟨bb,oo,none⟩ cc (putB L) Tryz.underlying129 Tryz.underlying5 Tryz.underlying9 (bytes_back HU.out);generalize hG:putB L=G at HU hcv⊢;have HG:=LH hG;clear hG;go_wp2_with fail
   all_goals exact bR (v:=.tuple #[.string ⟨G.toArray⟩,.int .i64 0]) (by simp only [results,Tryz.results133];go_simp) rfl ⟨by rw [HG.out],HB.out⟩
def stepD (L:List Int) :List Int:=List.zipWith (fun x p=>x - p) L (0 :: L)
theorem stepD_len (L:List Int) : (stepD L).length=L.length:=by simp [stepD]
theorem stepD_at (L:List Int) {q:Nat} (h:q<L.length) {p:Int} (hp: (0 :: L)[q]? =some p) : (stepD L)[q]? =some (L[q] - p):=by
 unfold stepD;rw [List.getElem?_zipWith,hp,List.getElem?_eq_getElem h]
def risesB (L:List Int) :List UInt8:=oneB L.length ++ putB (stepD L)
def risesOk (L:List Int) :Bool:=(stepD L).all fun d=>decide (0<d)
theorem putB_step {D:List Int} {q:Nat} {d:Int} (h:D[q]? =some d) :putB (D.take (q+1)) =putB (D.take q) ++ oneB d.toNat:=by
 obtain⟨hq,rfl⟩:=List.getElem?_eq_some_iff.1 h;exact putB_take hq
theorem vary_Rises (w:World) (base:Nat) (v:Value) (L:List Int) (ho:Own w base 3 encZ v L) (hi: ∀x∈L,i64 x) (hl:L.length≤1000000) (hr:risesOk L=true) :
 Calls Tryz.prog 134 #[v] w fun e w'=>e=.returned (.tuple #[.string ⟨(risesB L).toArray⟩,.int .i64 0])∧Below w.heap.size w w':=by
 obtain⟨A,c,rfl,_⟩:=ho.form;have HO:=LH (ho.base_le (Nat.zero_le _));have HI:=LH hi
 have HD:=LH (fun q (hq:q<L.length) (d:Int) (hd: (stepD L)[q]? =some d)=>by
  have:=List.all_eq_true.1 hr d (List.mem_of_getElem? hd)
  simpa using this)
 clear ho hi hr
 go_enter Tryz.func134,Tryz.ntmps134
 go_wp2_with fail;refine(vary_one w w.heap.size _ [] L.length (Own.nil _ _ _ _) (Nat.le_refl _) (by simp) (by omega)).mono ?_;rintro e w1 ⟨v1,rfl,ho1,hb1⟩;have HU1:=LH ho1;have HB1:=LH hb1;clear ho1 hb1;go_wp2_with fail
 go_loopw [4,5,13] (fun u pv j wr=>∃(q:Nat) (p:Int),j=.int .i64 q∧pv=.int .i64 p∧q≤L.length∧(0 :: L)[q]? =some p∧0≤p∧(∀d∈(stepD L).take q,d≤9223372036854775807)∧Own wr w.heap.size 5 encB8 u (oneB L.length ++ putB ((stepD L).take q))∧Below w.heap.size w wr) (fun _ _ j _=>L.length - (intOf j).toNat)
 case atStart=>exact⟨0,0,rfl,rfl,Nat.zero_le _,rfl,Int.le_refl _,by simp,by simpa [putB] using HU1.out,HB1.out⟩
 case round=>
  obtain⟨q,p,rfl,rfl,hq,hp,hp0,hd,ho,hB⟩:=hrel;have HB:=LH hB;have HR:=LH (HO.out.below hB);have HU:=LH ho;have HP:=LH hp;have HDl:=LH hd;have sz:=hB.size;clear hp hd ho hB;by_cases hlt:q<L.length
  ·have hqi: (q:Int) < (L.length:Int):=by omega
   have HS:=LH (stepD_at L hlt HP.out);have hpos:=HD.out q hlt _ HS.out;have hx1:=(HI.out _ (List.getElem_mem hlt)).2;have HN:Hid ((0 :: L)[q+1]? =some L[q]):=LH (by simp [List.getElem?_eq_getElem hlt]);obtain⟨b,off,rfl,hb,hc⟩:=HR.out.sl.at_ hlt;have d0:=hc 0 (.int .i64 L[q]) rfl;simp only [Nat.mul_one,Nat.add_zero] at d0;generalize L[q] =x at HS hpos hx1 HN d0;obtain⟨n,hn⟩ : ∃n:Nat,x - p= (n:Int):=⟨(x - p).toNat,by omega⟩;have hle: ¬x≤p:=by omega
   have hn9:n≤9223372036854775807:=by omega
   have HT:=LH (putB_step HS.out);rw [hn] at HT
   have hlq: (oneB L.length ++ putB ((stepD L).take q)).length≤67108864:=by
    have h1:=putB_len HDl.out;have h2: ((stepD L).take q).length≤1000000:=by rw [List.length_take];omega
    have h3:=oneB_le (n:=L.length) (by omega);rw [List.length_append];omega
   have HD2:Hid (∀d∈(stepD L).take (q+1),d≤9223372036854775807):=LH (by
    obtain⟨h1,h2⟩:=List.getElem?_eq_some_iff.1 HS.out;rw [List.take_succ_eq_append_getElem h1];intro d hd;rcases List.mem_append.1 hd with h|h
    ·exact HDl.out d h
    ·simp only [List.mem_singleton] at h;rw [h,h2];omega)
   have hx0:0≤x:=by omega
   clear hc hpos HS;go_wp2_with fail;refine(vary_one wr w.heap.size _ _ n HU.out sz hlq hn9).mono ?_;rintro e w2 ⟨v2,rfl,ho2,hb2⟩;have HU2:=LH ho2;have HB2:=LH (HB.out.trans hb2);clear ho2 hb2;go_wp2_with fail;go_roundw
   case rel=>exact⟨q+1,x,by go_num,rfl,by omega,HN.out,hx0,HD2.out,by rw [HT.out,←List.append_assoc];exact HU2.out,HB2.out⟩
   case measure=>simp [intOf];omega
  ·obtain rfl:q=L.length:=by omega
   rw [show (stepD L).take L.length=stepD L by rw [←stepD_len L,List.take_length]] at HU;have hqi:decide ((L.length:Int) < (L.length:Int)) =false:=by simp
   have hGp:0< (oneB L.length ++ putB (stepD L)).length:=by
    have:=oneB_pos L.length;rw [List.length_append];omega
   obtain⟨bb,oo,cc,rfl,_⟩:=own_at0 HU.out hGp;have hcv:=run_convert_bytes_back (P:=Tryz.prog) wr 129 9 5 ⟨bb,oo,none⟩ cc (oneB L.length ++ putB (stepD L)) Tryz.underlying129 Tryz.underlying5 Tryz.underlying9 (bytes_back HU.out);generalize hG:oneB L.length ++ putB (stepD L) =G at HU hcv hGp⊢;have HG:=LH hG;clear hG;go_wp2_with fail
   all_goals exact bR (v:=.tuple #[.string ⟨G.toArray⟩,.int .i64 0]) (by simp only [results,Tryz.results134];go_simp) rfl ⟨by unfold risesB;rw [HG.out],HB.out⟩
def getF (a acc:Nat) :List UInt8→Nat×Nat×Int
 | []=>if a=9 then (0,0,10) else (0,0,9)
 |b :: t=>if a=9 then (0,0,10) else if b.toNat<128 then (if 0<a∧b.toNat=0 then (0,0,10) else (acc+b.toNat*128^a,a+1,0)) else getF (a+1) (acc+ (b.toNat - 128) *128^a) t
def getB (s:List UInt8) :Nat×Nat×Int:=getF 0 0 s
theorem getF_nine (acc:Nat) (s:List UInt8) :getF 9 acc s= (0,0,10):=by cases s <;> simp [getF]
theorem getF_end {a:Nat} (h:a<9) (acc:Nat) :getF a acc [] = (0,0,9):=by simp only [getF];rw [if_neg (by omega)]
theorem getF_last {a acc:Nat} {b:UInt8} {t:List UInt8} (h:a<9) (hb:b.toNat<128) (h0: ¬(0<a∧b.toNat=0)) :getF a acc (b :: t) = (acc+b.toNat*128^a,a+1,0):=by
 simp only [getF];rw [if_neg (by omega),if_pos hb,if_neg h0]
theorem getF_zero {a acc:Nat} {b:UInt8} {t:List UInt8} (h:a<9) (hb:b.toNat<128) (h0:0<a∧b.toNat=0) :getF a acc (b :: t) = (0,0,10):=by
 simp only [getF];rw [if_neg (by omega),if_pos hb,if_pos h0]
theorem getF_more {a acc:Nat} {b:UInt8} {t:List UInt8} (h:a<9) (hb: ¬b.toNat<128) :getF a acc (b :: t) =getF (a+1) (acc+ (b.toNat - 128) *128^a) t:=by
 rw [getF,if_neg (by omega),if_neg hb]
theorem getF_bounds: ∀(s:List UInt8) (a acc:Nat),a≤9→acc<128^a→
 (getF a acc s).1<128^9∧((getF a acc s).2.2≠0→(getF a acc s).1=0∧(getF a acc s).2.1=0)∧(getF a acc s).2.1≤a+s.length∧((getF a acc s).2.2=0→a< (getF a acc s).2.1)∧((getF a acc s).2.2=0∨(getF a acc s).2.2=9∨(getF a acc s).2.2=10)∧(getF a acc s).2.1≤9:=by
 intro s
 induction s with
 |nil=>
  intro a acc ha hacc;simp only [getF]
  split <;> refine⟨by decide,?_,?_,?_,?_,?_⟩ <;> simp
 |cons b t ih=>
  intro a acc ha hacc;have hb:=b.toNat_lt;by_cases h9:a=9
  ·subst h9;rw [getF_nine];refine⟨by decide,?_,?_,?_,?_,?_⟩ <;> simp
  have ha9:a<9:=by omega
  have hp:128^ (a+1) =128^a*128:=Nat.pow_succ ..;have hle:128^ (a+1)≤128^9:=Nat.pow_le_pow_right (by omega) (by omega);by_cases h1:b.toNat<128
  ·by_cases h0:0<a∧b.toNat=0
   ·rw [getF_zero ha9 h1 h0];refine⟨by decide,?_,?_,?_,?_,?_⟩ <;> simp
   ·rw [getF_last ha9 h1 h0]
    have h2:b.toNat*128^a≤127*128^a:=Nat.mul_le_mul_right _ (by omega);refine⟨?_,?_,?_,?_,?_,?_⟩
    ·show acc+b.toNat*128^a<128^9
     omega
    ·simp
    ·simp only [List.length_cons];omega
    ·simp
    ·simp
    ·show a+1≤9
     omega
  ·rw [getF_more ha9 h1]
   have h2: (b.toNat - 128) *128^a≤127*128^a:=Nat.mul_le_mul_right _ (by omega);obtain⟨i1,i2,i3,i4,i5,i6⟩:=ih (a+1) (acc+ (b.toNat - 128) *128^a) (by omega) (by omega);refine⟨i1,i2,?_,fun h=> ?_,i5,i6⟩
   ·simp only [List.length_cons];omega
   ·have:=i4 h;omega
theorem getB_bounds (s:List UInt8) : (getB s).1≤9223372036854775807∧((getB s).2.2≠0→(getB s).1=0∧(getB s).2.1=0)∧(getB s).2.1≤s.length∧((getB s).2.2=0→0< (getB s).2.1)∧((getB s).2.2=0∨(getB s).2.2=9∨(getB s).2.2=10)∧(getB s).2.1≤9:=by
 obtain⟨h1,h2,h3,h4,h5,h6⟩:=getF_bounds s 0 0 (by omega) (by decide);have e: (128:Nat) ^9=9223372036854775808:=by decide
 rw [e] at h1;unfold getB;exact⟨by omega,h2,by omega,h4,h5,h6⟩
def fallF (s:List UInt8) :Nat→Nat→Nat→List Int→List Int×Nat×Int
 |0,_,a,out=>(out,a,0)
 |m+1,last,a,out=>
  let g:=getB (s.drop a)
  if g.2.2≠0 then ([],0,g.2.2) else if g.1=0∨9223372036854775807 - last<g.1 then ([],0,10) else fallF s m (last+g.1) (a+g.2.1) (out ++ [((last+g.1:Nat) :Int)])
def fallB (s:List UInt8) (most:Int) :List Int×Nat×Int:=
 let g:=getB s
 if g.2.2≠0 then ([],0,g.2.2) else if most< (g.1:Int) then ([],0,13) else fallF s g.1 0 g.2.1 []
theorem fallF_bounds (s:List UInt8) : ∀(m last a:Nat) (out:List Int),a≤s.length→(∀x∈out,1≤x∧x≤9223372036854775807)→last≤9223372036854775807→
 (fallF s m last a out).2.1≤s.length∧(∀x∈(fallF s m last a out).1,1≤x∧x≤9223372036854775807)∧((fallF s m last a out).2.2≠0→(fallF s m last a out).1= []∧(fallF s m last a out).2.1=0)∧(fallF s m last a out).1.length≤out.length+m:=by
 intro m
 induction m with
 |zero=>intro last a out ha ho _;simp only [fallF];exact⟨ha,ho,by simp,by simp⟩
 |succ m ih=>
  intro last a out ha ho hl;obtain⟨b1,b2,b3,b4,b5,b6⟩:=getB_bounds (s.drop a);simp only [fallF]
  split
  ·exact⟨by simp,by simp,by simp,by simp⟩
  ·split
   ·exact⟨by simp,by simp,by simp,by simp⟩
   ·rename_i h1 h2
    simp only [List.length_drop] at b3
    obtain⟨i1,i2,i3,i4⟩:=ih (last+ (getB (s.drop a)).1) (a+ (getB (s.drop a)).2.1) (out ++ [((last+ (getB (s.drop a)).1:Nat) :Int)]) (by omega) (fun x hx=>by
     rcases List.mem_append.1 hx with hx|hx
     ·exact ho x hx
     ·simp only [List.mem_singleton] at hx;subst hx;omega) (by omega)
    refine⟨i1,i2,i3,?_⟩;simp only [List.length_append,List.length_cons,List.length_nil] at i4;omega
theorem fallB_bounds (s:List UInt8) (most:Int) : (fallB s most).2.1≤s.length∧(∀x∈(fallB s most).1,1≤x∧x≤9223372036854775807)∧((fallB s most).2.2≠0→(fallB s most).1= []∧(fallB s most).2.1=0)∧((fallB s most).1.length:Int)≤max most 0:=by
 obtain⟨b1,b2,b3,b4,b5,b6⟩:=getB_bounds s;unfold fallB;simp only
 split
 ·exact⟨by simp,by simp,by simp,by simp;omega⟩
 ·split
  ·exact⟨by simp,by simp,by simp,by simp;omega⟩
  ·obtain⟨i1,i2,i3,i4⟩:=fallF_bounds s (getB s).1 0 (getB s).2.1 [] b3 (by simp) (by omega)
   refine⟨i1,i2,i3,?_⟩;simp only [List.length_nil] at i4;omega
def sum1 (s:Nat×Nat) (b:UInt8) :Nat×Nat:=((s.1+b.toNat) % 65521,(s.2+ (s.1+b.toNat)) % 65521)
def sumT (s:Nat×Nat) (l:List UInt8) :Nat×Nat:=l.foldl sum1 s
def sumV (s:Nat×Nat) :Value:=.agg #[.int .i64 s.1,.int .i64 s.2]
theorem sumT_app (s) (l m:List UInt8) :sumT s (l ++ m) =sumT (sumT s l) m:=by simp [sumT,List.foldl_append]
theorem sum1_lt (s) (b:UInt8) : (sum1 s b).1<65521∧(sum1 s b).2<65521:=⟨Nat.mod_lt _ (by decide),Nat.mod_lt _ (by decide)⟩
theorem sumT_lt {s:Nat×Nat} (h:s.1<65521∧s.2<65521) : ∀l:List UInt8,(sumT s l).1<65521∧(sumT s l).2<65521:=by
 intro l
 induction l generalizing s with
 |nil=>exact h
 |cons b l ih=>exact ih (sum1_lt s b)
theorem seal_Begin (w:World) :Calls Tryz.prog 182 #[] w fun e w'=>e=.returned (sumV (1,0))∧Below w.heap.size w w':=by
 go_enter Tryz.func182,Tryz.ntmps182
 go_wp2_with fail;exact bR (v:=.agg #[.int .i64 1,.int .i64 0]) (by simp only [results,Tryz.results182];go_simp) rfl ⟨rfl,bE⟩
theorem back4 (W:World) (a b c d:UInt8) (n:Nat) (hn:n=W.heap.size) :
 (convert 129 9 (.slice (some ⟨n,0,none⟩) 4 4)).run Tryz.prog (W.alloc (.cells #[.int .u8 (a.toNat:Int),.int .u8 (b.toNat:Int),.int .u8 (c.toNat:Int),.int .u8 (d.toNat:Int)] 5)) =.ok (.string ⟨[a,b,c,d].toArray⟩) (W.alloc (.cells #[.int .u8 (a.toNat:Int),.int .u8 (b.toNat:Int),.int .u8 (c.toNat:Int),.int .u8 (d.toNat:Int)] 5)):=by
 subst hn;refine run_convert_bytes_back (P:=Tryz.prog) _ 129 9 5 ⟨W.heap.size,0,none⟩ 4 [a,b,c,d] Tryz.underlying129 Tryz.underlying5 Tryz.underlying9 ?_;intro j hj;rw [show Addr.add ⟨W.heap.size,0,none⟩ j= ⟨W.heap.size,j,none⟩ by unfold Addr.add;split <;> simp_all];rw [World.cell?_alloc_mark];simp only [List.length_cons,List.length_nil] at hj
 match j,hj with
 |0,_=>rfl
 |1,_=>rfl
 |2,_=>rfl
 |3,_=>rfl
def bytesL (s:Nat×Nat) :List UInt8:= [UInt8.ofNat (s.2 / 256),UInt8.ofNat s.2,UInt8.ofNat (s.1 / 256),UInt8.ofNat s.1]
theorem seal_Bytes (w:World) (s:Nat×Nat) (h:s.1<65521∧s.2<65521) :Calls Tryz.prog 151 #[sumV s] w fun e w'=>e=.returned (.string ⟨(bytesL s).toArray⟩)∧Below w.heap.size w w':=by
 unfold sumV;have h1: (s.2:Int) / 256= ((UInt8.ofNat (s.2 / 256)).toNat:Int):=by rw [UInt8.toNat_ofNat'];omega
 have h2: (s.2:Int) % 256= ((UInt8.ofNat s.2).toNat:Int):=by rw [UInt8.toNat_ofNat'];omega
 have h3: (s.1:Int) / 256= ((UInt8.ofNat (s.1 / 256)).toNat:Int):=by rw [UInt8.toNat_ofNat'];omega
 have h4: (s.1:Int) % 256= ((UInt8.ofNat s.1).toNat:Int):=by rw [UInt8.toNat_ofNat'];omega
 unfold bytesL;generalize UInt8.ofNat (s.2 / 256) =a at h1⊢;generalize UInt8.ofNat s.2=b at h2⊢;generalize UInt8.ofNat (s.1 / 256) =c at h3⊢;generalize UInt8.ofNat s.1=d at h4⊢;have hcv:=back4 (w.alloc (.cells #[.int .i64 s.1,.int .i64 s.2] 208)) a b c d (w.heap.size+1) (by simp);have HB:Hid (Below w.heap.size w ((w.alloc (.cells #[.int .i64 s.1,.int .i64 s.2] 208)).alloc (.cells #[.int .u8 (a.toNat:Int),.int .u8 (b.toNat:Int),.int .u8 (c.toNat:Int),.int .u8 (d.toNat:Int)] 5))):=LH bE;have h5:=h.1;have h6:=h.2;clear h
 go_enter Tryz.func151,Tryz.ntmps151
 go_wp2_with fail;exact bR (v:=.string ⟨[a,b,c,d].toArray⟩) (by simp only [results,Tryz.results151];go_simp) rfl ⟨rfl,HB.out⟩
def SealAt (W:World) (b lo hi:Nat) :Prop:=W.heap[b]? =some (.cells #[.int .i64 lo,.int .i64 hi] 208 (0,0))
theorem SealAt.below {w w':World} {b lo hi:Nat} (h:SealAt w b lo hi) (hb:Below w.heap.size w w') :SealAt w' b lo hi:=bB h hb
theorem SealAt.set {w:World} {b lo hi q o:Nat} (h:SealAt w b lo hi) (hne:b≠q) (u:Value) :SealAt (w.setCell ⟨q,o,none⟩ u) b lo hi:=(Below.heap_setCell _ _ _ _ hne).trans h
theorem SealAt.put0 {w:World} {b lo hi:Nat} (h:SealAt w b lo hi) (x:Nat) :SealAt (w.setCell ⟨b,0,none⟩ (.int .i64 x)) b x hi:=zH (i:=0) h _
theorem SealAt.put1 {w:World} {b lo hi:Nat} (h:SealAt w b lo hi) (x:Nat) :SealAt (w.setCell ⟨b,1,none⟩ (.int .i64 x)) b lo x:=zH (i:=1) h _
theorem sum_step {A:Nat×Nat} {lo hi:Nat} (b:UInt8) (h1:lo % 65521=A.1) (h2:hi % 65521=A.2) : (lo+b.toNat) % 65521= (sum1 A b).1∧(hi+ (lo+b.toNat)) % 65521= (sum1 A b).2:=by
 unfold sum1;dsimp only;omega
theorem sumT_take {A:Nat×Nat} {l:List UInt8} {q:Nat} (h:q<l.length) :sumT A (l.take (q+1)) =sum1 (sumT A (l.take q)) l[q]:=by
 rw [List.take_succ_eq_append_getElem h,sumT_app]
 rfl
theorem text_at (W:World) (l:List UInt8) (q:Nat) (h:q<l.length) : (Instr.index 9 (.string ⟨l.toArray⟩) (.int .i64 q)).run Tryz.prog W=.ok (.int .u8 (l[q].toNat:Int)) W:=by
 have hq:0≤(q:Int)∧(q:Int) < ((ByteArray.mk l.toArray).size:Int):=⟨by omega,by show (q:Int) < (l.toArray.size:Int);simp;exact h⟩;rw [run_index_string W 9 ⟨l.toArray⟩ .i64 q Tryz.underlying9,dif_pos hq]
 rfl
def strSize:Value→Nat
 | .string b=>b.size
 |_=>0
theorem text_drop (l:List UInt8) (n:Nat) : (ByteArray.mk l.toArray).extract n l.length= ⟨(l.drop n).toArray⟩:=by
 apply ByteArray.ext
 simp [ByteArray.data_extract]
 exact List.take_of_length_le (by simp)
theorem SealAt.drew {w:World} {b lo hi:Nat} (h:SealAt w b lo hi) :SealAt w.drew b lo hi:=h
theorem SealAt.new (w:World) (lo hi:Nat) :SealAt (w.alloc (.cells #[.int .i64 lo,.int .i64 hi] 208)) w.heap.size lo hi:=heap_alloc_new w _
theorem SealAt.alloc {w:World} {b lo hi:Nat} (h:SealAt w b lo hi) (o:Obj) :SealAt (w.alloc o) b lo hi:=h.below ((Below.refl _ _).alloc (Nat.le_refl _) o)
theorem size_alloc1 (w:World) (o:Obj) : (w.alloc o).heap.size=w.heap.size+1:=by simp
theorem seal_More (w:World) (s:Nat×Nat) (l:List UInt8) (h:s.1<65521∧s.2<65521) (hl:l.length≤1000000000000) :
 Calls Tryz.prog 183 #[sumV s,.string ⟨l.toArray⟩] w fun e w'=>e=.returned (sumV (sumT s l))∧Below w.heap.size w w':=by
 unfold sumV;have HS:=LH h;clear h
 go_enter Tryz.func183,Tryz.ntmps183
 go_wp2_with fail
 go_loopw [1] (fun t wr=>∃(pre suf:List UInt8),t=.string ⟨suf.toArray⟩∧pre ++ suf=l∧SealAt wr w.heap.size (sumT s pre).1 (sumT s pre).2∧SealAt wr (w.heap.size+1) 0 0∧Below w.heap.size w wr) (fun t _=>strSize t)
 case atStart=>
  refine⟨[],l,rfl,rfl,(SealAt.new w s.1 s.2).alloc _,?_,bE⟩;have:=SealAt.new (w.alloc (.cells #[.int .i64 s.1,.int .i64 s.2] 208)) 0 0;rw [size_alloc1] at this;exact this
 case round=>
  obtain⟨pre,suf,rfl,he,hx,hy,hB⟩:=hrel;have HE:=LH he;have HX:=LH hx;have HY:=LH hy;have HB:=LH hB;have hsl:suf.length≤1000000000000:=by rw [←he,List.length_append] at hl;omega
  have HLt:=LH (sumT_lt HS.out pre);have sz:=hB.size;clear he hx hy hB;by_cases h0:0<suf.length
  ·have h1: (0:Int) < (suf.length:Int):=by omega
   obtain⟨n,hn⟩ : ∃n:Nat,n=min suf.length 5000:=⟨_,rfl⟩;have hmin:min (suf.length:Int) 5000= (n:Int):=by omega
   have hn1:1≤n∧n≤5000∧n≤suf.length:=by omega
   clear hn;go_wp2_with fail
   go_loopw [14] (fun j W=>∃q lo hi:Nat,j=.int .i64 q∧q≤n∧SealAt W w.heap.size lo hi∧lo≤65520+255*q∧hi≤65520+q*1400000∧lo % 65521= (sumT (sumT s pre) (suf.take q)).1∧hi % 65521= (sumT (sumT s pre) (suf.take q)).2∧SealAt W (w.heap.size+1) 0 0∧Below w.heap.size w W) (fun j _=>n - (intOf j).toNat)
   case atStart=>
    have hL:=HLt.out;exact⟨0,_,_,rfl,Nat.zero_le _,HX.out,by omega,by omega,Nat.mod_eq_of_lt hL.1,Nat.mod_eq_of_lt hL.2,HY.out,HB.out⟩
   case round=>
    obtain⟨q,lo,hi,rfl,hq,hx,hlo,hhi,hm1,hm2,hy,hB⟩:=hrel;have HM:=LH (And.intro hm1 hm2);have HY2:=LH hy;have HB2:=LH hB;have HX2:=LH hx;have cc:=bC hx;have cf:=bF hx;have zb:=lB hx;clear hm1 hm2 hy hB hx;by_cases hqn:q<n
    ·have hqi: (q:Int) < (n:Int):=by omega
     have hqs:q<suf.length:=by omega
     have hqsi: (q:Int) < (suf.length:Int):=by omega
     have HS1:=LH (sumT_take (A:=sumT s pre) hqs);have HS2:=LH (sum_step suf[q] HM.out.1 HM.out.2);have hbl: (suf[q]).toNat<256:=(suf[q]).toNat_lt;have hix:=fun W=>text_at W suf q hqs;generalize suf[q] =y at HS1 HS2 hbl hix;generalize y.toNat=b at HS2 hbl hix;obtain⟨lo2,hlo2⟩ : ∃lo2:Nat,lo2=lo+b:=⟨_,rfl⟩;rw [←hlo2] at HS2;have hw: (lo:Int) + (b:Int) = (lo2:Int):=by omega
     have HX3:=LH (HX2.out.put0 lo2).drew;have HY3:=LH (HY2.out.set (q:=w.heap.size) (o:=0) (by omega) (.int .i64 lo2)).drew;have HB3:=LH (Below.setCell (p:=⟨w.heap.size,0,none⟩) HB2.out (Nat.le_refl _) (.int .i64 lo2)).drew;have hlo3:lo2≤65520+255* (q+1):=by omega
     clear hlo2;go_wp2_with fail
     go_region
     generalize (wr.setCell ⟨w.heap.size,0,none⟩ (.int .i64 lo2)).drew=W3 at HX3 HY3 HB3⊢;have cc3:=bC HX3.out;have cf3:=bF HX3.out;have zb3:=lB HX3.out;clear cc cf zb hw;obtain⟨hi2,hhi2⟩ : ∃hi2:Nat,hi2=hi+lo2:=⟨_,rfl⟩;rw [←hhi2] at HS2;have HX4:=LH (HX3.out.put1 hi2);have HY4:=LH (HY3.out.set (q:=w.heap.size) (o:=1) (by omega) (.int .i64 hi2));have HB4:=LH (Below.setCell (p:=⟨w.heap.size,1,none⟩) HB3.out (Nat.le_refl _) (.int .i64 hi2));have hw2: (hi:Int) + (lo2:Int) = (hi2:Int):=by omega
     have hhi3:hi2≤65520+ (q+1) *1400000:=by omega
     clear hhi2;go_wp2_with fail;go_roundw
     case rel=>exact⟨q+1,lo2,hi2,by go_num,by omega,HX4.out,hlo3,hhi3,by rw [HS1.out];exact HS2.out.1,by rw [HS1.out];exact HS2.out.2,HY4.out,HB4.out⟩
     case measure=>simp [intOf];omega
    ·obtain rfl:q=n:=by omega
     have hqi:decide ((q:Int) < (q:Int)) =false:=by simp
     have HEX:Hid (pre ++ suf.take q ++ suf.drop q=l):=LH (by rw [List.append_assoc,List.take_append_drop];exact HE.out);have hm:sumT (sumT s pre) (suf.take q) =sumT s (pre ++ suf.take q):=(sumT_app _ _ _).symm;have HM2:=LH (And.intro (HM.out.1.trans (congrArg Prod.fst hm)) (HM.out.2.trans (congrArg Prod.snd hm)));generalize pre ++ suf.take q=pre2 at HEX HM2 hm;clear hm HM;have hloi: (lo:Int) % 65521= ((sumT s pre2).1:Int):=by have:=HM2.out.1;omega
     have hhii: (hi:Int) % 65521= ((sumT s pre2).2:Int):=by have:=HM2.out.2;omega
     generalize hA: (sumT s pre2).1=A1 at hloi;generalize hA2: (sumT s pre2).2=A2 at hhii;have HA:=LH (And.intro hA hA2);clear hA hA2;have HX3:=LH ((HX2.out.put0 A1).put1 A2);have HY3:=LH ((HY2.out.set (q:=w.heap.size) (o:=0) (by omega) (.int .i64 A1)).set (q:=w.heap.size) (o:=1) (by omega) (.int .i64 A2));have HB3:=LH (Below.setCell (p:=⟨w.heap.size,1,none⟩) (Below.setCell (p:=⟨w.heap.size,0,none⟩) HB2.out (Nat.le_refl _) (.int .i64 A1)) (Nat.le_refl _) (.int .i64 A2));have htd:=text_drop suf q;go_wp2_with fail;go_roundw
     case rel=>exact⟨pre2,suf.drop q,rfl,HEX.out,by rw [HA.out.1,HA.out.2];exact HX3.out,HY3.out,HB3.out⟩
     case measure=>
      show (List.drop q suf).toArray.size<suf.toArray.size
      simp
      omega
  ·obtain rfl:suf= []:=List.eq_nil_of_length_eq_zero (by omega)
   obtain rfl:pre=l:=by simpa using HE.out
   have cc:=bC HX.out;have cf:=bF HX.out;have zb:=lB HX.out;have cd:=bC HY.out;have cg:=bF HY.out;have zc:=lB HY.out;have HYe:=LH ((HY.out.put0 (sumT s pre).1).put1 (sumT s pre).2);have HBe:=LH (Below.setCell (p:=⟨w.heap.size+1,1,none⟩) (Below.setCell (p:=⟨w.heap.size+1,0,none⟩) HB.out (by simp) (.int .i64 (sumT s pre).1)) (by simp) (.int .i64 (sumT s pre).2));go_wp2_with fail;generalize ((wr.setCell ⟨w.heap.size+1,0,none⟩ (.int .i64 (sumT s pre).1)).setCell ⟨w.heap.size+1,1,none⟩ (.int .i64 (sumT s pre).2)) =W4 at HYe HBe⊢;have ce:=bC HYe.out;have cfe:=bF HYe.out;have ze:=lB HYe.out;exact bR (v:=.agg #[.int .i64 (sumT s pre).1,.int .i64 (sumT s pre).2]) (by simp only [results,Tryz.results183];go_simp) rfl ⟨rfl,HBe.out⟩
def encT:Enc (List UInt8) 1:=⟨fun l=> [.string ⟨l.toArray⟩],fun _=>rfl,by intro x u hu;simp at hu;subst hu;rfl⟩
theorem flat_take {L:List (List UInt8)} {q:Nat} (h:q<L.length) : (L.take (q+1)).flatten= (L.take q).flatten ++ L[q]:=by
 rw [List.take_succ_eq_append_getElem h,List.flatten_append];simp
theorem seal_Of (w:World) (base:Nat) (v:Value) (L:List (List UInt8)) (ho:Own w base 9 encT v L) (hl: ∀l∈L,l.length≤1000000000000) (hn:L.length≤1000000) :
 Calls Tryz.prog 150 #[v] w fun e w'=>e=.returned (sumV (sumT (1,0) L.flatten))∧Below w.heap.size w w':=by
 obtain⟨A,c,rfl,_⟩:=ho.form;have HO:=LH (ho.base_le (Nat.zero_le _));have HLn:=LH hl;have HY0:=LH (SealAt.new w 0 0);have HB0:Hid (Below w.heap.size w (w.alloc (.cells #[.int .i64 (0:Nat),.int .i64 (0:Nat)] 208))):=LH bE;have HMo:=LH (fun W s l=>seal_More W s l);unfold sumV at HMo⊢;clear ho hl;generalize hG:sumT (1,0) L.flatten=G;have HG:=LH hG;clear hG
 go_enter Tryz.func150,Tryz.ntmps150
 go_wp2_with fail;refine(seal_Begin _).mono ?_;unfold sumV;rintro e w1 ⟨rfl,hb1⟩;have s1:=hb1.size;rw [size_alloc1] at s1;have HY1:=LH (HY0.out.below hb1);have HB1:=LH (HB0.out.trans (hb1.mono (by simp)));clear hb1;go_wp2_with fail
 go_loopw [9] (fun j wr=>∃q:Nat,j=.int .i64 q∧q≤L.length∧SealAt wr w1.heap.size (sumT (1,0) (L.take q).flatten).1 (sumT (1,0) (L.take q).flatten).2∧SealAt wr w.heap.size 0 0∧Below w.heap.size w wr) (fun j _=>L.length - (intOf j).toNat)
 case atStart=>
  refine⟨0,rfl,Nat.zero_le _,SealAt.new w1 1 0,HY1.out.alloc _,HB1.out.alloc (by omega) _⟩
 case round=>
  obtain⟨q,rfl,hq,hx,hy,hB⟩:=hrel;have HX:=LH hx;have HY:=LH hy;have HB:=LH hB;have HR:=LH (HO.out.below hB);have sz:=hB.size;have cc:=bC hx;have cf:=bF hx;have zb:=lB hx;clear hx hy hB;by_cases hlt:q<L.length
  ·have hqi: (q:Int) < (L.length:Int):=by omega
   obtain⟨b,off,rfl,hb,hc⟩:=HR.out.sl.at_ hlt;have d0:=hc 0 (.string ⟨(L[q]).toArray⟩) rfl;simp only [Nat.mul_one,Nat.add_zero] at d0;have HF:=LH (flat_take hlt);have HL:=LH (HLn.out _ (List.getElem_mem hlt));have HA:=LH (sumT_app (1,0) (L.take q).flatten L[q]);have HS:=LH (sumT_lt (s:=(1,0)) (by decide) (L.take q).flatten);generalize L[q] =l at d0 HF HL HA;rw [←HF.out] at HA;generalize sumT (1,0) (L.take q).flatten=S at HX HS HA cc;clear hc;go_wp2_with fail;refine(HMo.out _ S l HS.out HL.out).mono ?_;rintro e w2 ⟨rfl,hb2⟩;have HX2:=LH (HX.out.below hb2);have HY2:=LH (HY.out.below hb2);have HB2:=LH (HB.out.trans (hb2.mono sz));have cc2:=bC HX2.out;have cf2:=bF HX2.out;have zb2:=lB HX2.out;rw [←HA.out];clear hb2 cc cf zb HF;generalize hT:sumT (1,0) (L.take (q+1)).flatten=T;have HT:=LH hT;clear hT HA;have HX3:=LH ((HX2.out.put0 T.1).put1 T.2);have HY3:=LH ((HY2.out.set (q:=w1.heap.size) (o:=0) (by omega) (.int .i64 T.1)).set (q:=w1.heap.size) (o:=1) (by omega) (.int .i64 T.2));have HB3:=LH (Below.setCell (p:=⟨w1.heap.size,1,none⟩) (Below.setCell (p:=⟨w1.heap.size,0,none⟩) HB2.out (by simp;omega) (.int .i64 T.1)) (by simp;omega) (.int .i64 T.2));go_wp2_with fail;go_roundw
   case rel=>exact⟨q+1,by go_num,by omega,by rw [HT.out];exact HX3.out,HY3.out,HB3.out⟩
   case measure=>simp [intOf];omega
  ·obtain rfl:q=L.length:=by omega
   rw [List.take_length,HG.out] at HX cc;have hqi:decide ((L.length:Int) < (L.length:Int)) =false:=by simp
   have cd:=bC HY.out;have cg:=bF HY.out;have zc:=lB HY.out;have HYe:=LH ((HY.out.put0 G.1).put1 G.2);have HBe:=LH (Below.setCell (p:=⟨w.heap.size,1,none⟩) (Below.setCell (p:=⟨w.heap.size,0,none⟩) HB.out (by simp) (.int .i64 G.1)) (by simp) (.int .i64 G.2));go_wp2_with fail;generalize ((wr.setCell ⟨w.heap.size,0,none⟩ (.int .i64 G.1)).setCell ⟨w.heap.size,1,none⟩ (.int .i64 G.2)) =W4 at HYe HBe⊢;have ce:=bC HYe.out;have cfe:=bF HYe.out;have ze:=lB HYe.out;exact bR (v:=.agg #[.int .i64 G.1,.int .i64 G.2]) (by simp only [results,Tryz.results150];go_simp) rfl ⟨rfl,HBe.out⟩
def sealT (l:List UInt8) :List UInt8:=l ++ bytesL (sumT (1,0) l)
theorem sealT_len (l:List UInt8) : (sealT l).length=l.length+4:=by simp [sealT,bytesL]
theorem seal_Seal (w:World) (l:List UInt8) (hl:l.length≤8000000) :Calls Tryz.prog 135 #[.string ⟨l.toArray⟩] w fun e w'=>e=.returned (.string ⟨(sealT l).toArray⟩)∧Below w.heap.size w w':=by
 unfold sealT;have HO:Hid (Own (w.alloc (.cells #[.string ⟨l.toArray⟩] 9)) w.heap.size 9 encT (.slice (some ⟨w.heap.size,0,none⟩) 1 1) [l]):=LH (Own.lit w encT [l] 9 (Nat.le_refl _) (by simp [maxLen]));have HF:=LH (seal_Of _ _ _ _ HO.out (by simp;omega) (by simp));have HB0:Hid (Below w.heap.size w (w.alloc (.cells #[.string ⟨l.toArray⟩] 9))):=LH bE;have hfl: [l].flatten=l:=by simp
 rw [hfl] at HF;have HS:=LH (sumT_lt (s:=(1,0)) (by decide) l);generalize sumT (1,0) l=S at HF HS⊢;clear hfl HO
 go_enter Tryz.func135,Tryz.ntmps135
 go_wp2_with fail;refine HF.out.mono ?_;rintro e w1 ⟨rfl,hb1⟩;have HB1:=LH (HB0.out.trans (hb1.mono (by simp)));clear hb1;go_wp2_with fail;refine(seal_Bytes _ S HS.out).mono ?_;rintro e w2 ⟨rfl,hb2⟩;have HB2:=LH (HB1.out.trans (hb2.mono HB1.out.size));clear hb2;have hcat:=fun W=>run_string_add_lists (P:=Tryz.prog) W l (bytesL S) (by omega) (by simp [bytesL]);go_wp2_with fail;exact bR (v:=.string ⟨(l ++ bytesL S).toArray⟩) (by simp only [results,Tryz.results135];go_simp) rfl ⟨rfl,HB2.out⟩
def isCrew (i:Int) :Bool:=decide (0≤i∧i<48)
theorem isCrew_nat {i:Int} (h:isCrew i=true) : ∃n:Nat,i=n∧n<48:=by
 simp only [isCrew,decide_eq_true_eq] at h;obtain⟨n,rfl⟩:=Int.eq_ofNat_of_zero_le h.1;exact⟨n,rfl,by omega⟩
def hasN (s i:Nat) :Bool:=decide (s / 2^i % 2=1)
def hasC (s:Nat) (i:Int) :Bool:=isCrew i && hasN s i.toNat
def withC (s:Nat) (i:Int) :Nat:=if isCrew i=true then (if hasN s i.toNat=true then s else s+2^i.toNat) else s
def rightC (s:Nat) :Bool:=decide (s≤281474976710655)
theorem wrap_u64s {n:Int} (h0:0≤n) (h1:n<2^64) :IntKind.u64.wrap n=n:=by rw [IntKind.wrap_u64];omega
theorem pow_crew {i:Nat} (hi:i<48) :2^i≤140737488355328∧1≤2^i:=by
 have h1:2^i≤2^47:=Nat.pow_le_pow_right (by decide) (by omega);have h2:=Nat.two_pow_pos i;omega
theorem and_one (s i:Nat) (hs:s<2^64) : (bits BinOp.and IntKind.u64 ((s:Int) / 2^i) 1 == 1) =hasN s i:=by
 have e: ((s:Int) / 2^i) = ((s / 2^i:Nat) :Int):=by rw [Int.natCast_ediv];norm_cast
 have hl:s / 2^i<2^64:=Nat.lt_of_le_of_lt (Nat.div_le_self _ _) hs;have h:=(bits_nat .u64 64 (by decide) (fun n h0 h1=>wrap_u64s h0 h1) (s / 2^i) 1 hl (by decide)).1;rw [e];rw [show ((1:Int)) = ((1:Nat) :Int) from rfl,h,Nat.and_one_is_mod];unfold hasN;by_cases hc:s / 2^i % 2=1
 ·simp [hc]
 ·have:s / 2^i % 2=0:=by omega
  simp [this]
theorem or_two_pow_add {s i:Nat} (h:s.testBit i=false) :2^i+s=s ||| 2^i:=by
 apply Nat.eq_of_testBit_eq
 intro j;rw [Nat.testBit_or,Nat.testBit_two_pow];rcases Nat.lt_trichotomy j i with hj|rfl|hj
 ·rw [Nat.testBit_two_pow_add_gt hj];simp;omega
 ·rw [Nat.testBit_two_pow_add_eq,h];simp
 ·have e:2^i+s=2^i* (1+s / 2^i) +s % 2^i:=by
   rw [Nat.mul_add,Nat.mul_one];have:=Nat.div_add_mod s (2^i);omega
  have hd:s / 2^i % 2=0:=by
   rw [Nat.testBit_eq_decide_div_mod_eq] at h;simp at h
   omega
  have h1: (2^i+s).testBit j=s.testBit j:=by
   rw [Nat.testBit_eq_decide_div_mod_eq,Nat.testBit_eq_decide_div_mod_eq]
   congr 2
   obtain⟨k,rfl⟩ : ∃k,j=i+1+k:=⟨j - (i+1),by omega⟩
   have key: (2^i+s) / 2^ (i+1) =s / 2^ (i+1):=by
    rw [Nat.pow_succ,←Nat.div_div_eq_div_mul,←Nat.div_div_eq_div_mul,Nat.add_comm,Nat.add_div_right _ (Nat.two_pow_pos i)];omega
   rw [Nat.pow_add,←Nat.div_div_eq_div_mul,←Nat.div_div_eq_div_mul,key]
  rw [h1];have: ¬i=j:=by omega
  simp [this]
theorem or_pow (s i:Nat) (hs:s<2^64) (hi:i<48) :bits BinOp.or IntKind.u64 (s:Int) ((2^i:Nat) :Int) = ((if hasN s i=true then s else s+2^i:Nat) :Int):=by
 have hp:=pow_crew hi;rw [(bits_nat .u64 64 (by decide) (fun n h0 h1=>wrap_u64s h0 h1) s (2^i) hs (by omega)).2]
 congr 1
 have ht:hasN s i=s.testBit i:=by
  unfold hasN;rw [Nat.testBit_eq_decide_div_mod_eq]
 rw [ht]
 apply Nat.eq_of_testBit_eq
 intro j;rw [Nat.testBit_or,Nat.testBit_two_pow];by_cases hb:s.testBit i=true
 ·rw [if_pos hb]
  by_cases hij:i=j
  ·subst hij;simp [hb]
  ·simp [hij]
 ·rw [if_neg hb]
  have hb':s.testBit i=false:=by simpa using hb
  rw [Nat.add_comm,or_two_pow_add hb',Nat.testBit_or,Nat.testBit_two_pow]
theorem crew_is (i:Int) (w:World) :Calls Tryz.prog 113 #[.int .i64 i] w fun e w'=>e=.returned (.bool (isCrew i))∧Below w.heap.size w w':=by
 unfold isCrew;by_cases h:0≤i
 ·have h1:decide (0≤i) =true:=by simpa using h
  go_enter Tryz.func113,Tryz.ntmps113
  go_wp2_with fail;go_ret;exact⟨by simp [h],Below.refl _ _⟩
 ·have h1:decide (0≤i) =false:=by simpa using h
  go_enter Tryz.func113,Tryz.ntmps113
  go_wp2_with fail;go_ret;exact⟨by simp [h],Below.refl _ _⟩
theorem crew_one (i:Int) (w:World) :Calls Tryz.prog 61 #[.int .i64 i] w fun e w'=>e=.returned (.int .u64 ((if isCrew i=true then 2^i.toNat else 0:Nat) :Int))∧Below w.heap.size w w':=by
 have HC:=LH (fun W=>crew_is i W)
 cases hc:isCrew i
 ·rw [hc] at HC
  clear hc
  go_enter Tryz.func61,Tryz.ntmps61
  go_wp2_with fail;refine(HC.out w).mono ?_;rintro e w1 ⟨rfl,hb1⟩;go_wp2_with fail;go_ret;exact⟨rfl,hb1⟩
 ·rw [hc] at HC
  obtain⟨n,rfl,hn⟩:=isCrew_nat hc;clear hc
  have hw:Hid (IntKind.u64.wrap (2^n) = ((2^n:Nat) :Int)):=LH (by
   have hp:=pow_crew hn;have e: (2:Int) ^n= ((2^n:Nat) :Int):=by norm_cast
   rw [e,wrap_u64s (by omega) (by omega)])
  go_enter Tryz.func61,Tryz.ntmps61
  go_wp2_with fail;refine(HC.out w).mono ?_;rintro e w1 ⟨rfl,hb1⟩;go_wp2_with fail;go_ret;refine⟨?_,hb1⟩;simp only [Array.getD_eq_getD_getElem?,Int.toNat_natCast];simp [hw.out]
theorem crew_With (s:Nat) (i:Int) (hs:s<2^64) (w:World) :Calls Tryz.prog 14 #[.int .u64 s,.int .i64 i] w fun e w'=>e=.returned (.int .u64 (withC s i))∧Below w.heap.size w w':=by
 have HC:=LH (fun W=>crew_one i W);unfold withC
 cases hc:isCrew i
 ·rw [hc] at HC
  clear hc;simp only [Bool.false_eq_true,if_false] at HC⊢
  have h0:Hid (bits BinOp.or IntKind.u64 (s:Int) 0= (s:Int)):=LH (by
   have:=(bits_nat .u64 64 (by decide) (fun n h0 h1=>wrap_u64s h0 h1) s 0 hs (by decide)).2
   simpa using this)
  go_enter Tryz.func14,Tryz.ntmps14
  go_wp2_with fail;refine(HC.out w).mono ?_;rintro e w1 ⟨rfl,hb1⟩;go_wp2_with fail;go_ret;refine⟨?_,hb1⟩;simp [h0.out]
 ·rw [hc] at HC
  obtain⟨n,rfl,hn⟩:=isCrew_nat hc;clear hc;simp only [if_true,Int.toNat_natCast] at HC⊢;have h0:=LH (or_pow s n hs hn);obtain⟨p,hp⟩ : ∃p,p=2^n:=⟨_,rfl⟩;rw [←hp] at HC h0⊢;clear hp;generalize (if hasN s n=true then s else s+p) =sp at h0⊢
  go_enter Tryz.func14,Tryz.ntmps14
  go_wp2_with fail;refine(HC.out w).mono ?_;rintro e w1 ⟨rfl,hb1⟩;go_wp2_with fail;go_ret;refine⟨?_,hb1⟩;have h2:=h0.out;simp only [Array.getD_eq_getD_getElem?];simp [h2]
theorem crew_Has (s:Nat) (i:Int) (hs:s<2^64) (w:World) :Calls Tryz.prog 108 #[.int .u64 s,.int .i64 i] w fun e w'=>e=.returned (.bool (hasC s i))∧Below w.heap.size w w':=by
 have HC:=LH (fun W=>crew_is i W);unfold hasC
 cases hc:isCrew i
 ·rw [hc] at HC
  clear hc
  go_enter Tryz.func108,Tryz.ntmps108
  go_wp2_with fail;refine(HC.out w).mono ?_;rintro e w1 ⟨rfl,hb1⟩;go_wp2_with fail;go_ret;exact⟨by simp,hb1⟩
 ·rw [hc] at HC
  obtain⟨n,rfl,hn⟩:=isCrew_nat hc;clear hc;have h0:=LH (and_one s n hs)
  go_enter Tryz.func108,Tryz.ntmps108
  go_wp2_with fail;refine(HC.out w).mono ?_;rintro e w1 ⟨rfl,hb1⟩;go_wp2_with fail;go_ret;refine⟨?_,hb1⟩;have:=h0.out;simp [this]
theorem crew_Right (s:Nat) (w:World) :Calls Tryz.prog 107 #[.int .u64 s] w fun e w'=>e=.returned (.bool (rightC s))∧Below w.heap.size w w':=by
 have e:decide ((s:Int)≤281474976710655) =decide (s≤281474976710655):=decide_eq_decide.2 (by omega);unfold rightC;rw [←e];clear e
 go_enter Tryz.func107,Tryz.ntmps107
 go_wp2_with fail;go_ret;exact⟨rfl,Below.refl _ _⟩
theorem ref27_Is (i:Int) (w:World) :Calls Tryz.prog 66 #[.int .i64 i] w fun e w'=>e=.returned (.bool (isCrew i))∧Below w.heap.size w w':=by
 unfold isCrew;by_cases h:0≤i
 ·have h1:decide (0≤i) =true:=by simpa using h
  go_enter Tryz.func66,Tryz.ntmps66
  go_wp2_with fail;go_ret;exact⟨by simp [h],Below.refl _ _⟩
 ·have h1:decide (0≤i) =false:=by simpa using h
  go_enter Tryz.func66,Tryz.ntmps66
  go_wp2_with fail;go_ret;exact⟨by simp [h],Below.refl _ _⟩
theorem pow_step {q n:Nat} (h:q<n) (hn:n≤48) :IntKind.u64.wrap (2* ((2^q:Nat) :Int)) = ((2^ (q+1) :Nat) :Int):=by
 have h1:2^ (q+1)≤2^48:=Nat.pow_le_pow_right (by decide) (by omega);have h2:2^ (q+1) =2*2^q:=by rw [Nat.pow_succ];omega
 rw [wrap_u64s (by omega) (by omega)];omega
theorem ref27_bit (n:Nat) (hn:n≤48) (w:World) :Calls Tryz.prog 91 #[.int .i64 n] w fun e w'=>e=.returned (.int .u64 ((2^n:Nat) :Int))∧Below w.heap.size w w':=by
 have HP:=LH (fun q (h:q<n)=>pow_step h hn)
 go_enter Tryz.func91,Tryz.ntmps91
 go_wp2_with fail
 go_loopw [3,4] (fun s i wr=>∃q,q≤n∧i=.int .i64 q∧s=.int .u64 ((2^q:Nat) :Int)∧Below w.heap.size w wr) (fun _ i _=>n - (intOf i).toNat)
 case atStart=>exact⟨0,Nat.zero_le _,rfl,rfl,Below.refl _ _⟩
 case round=>
  obtain⟨q,hq,rfl,rfl,hB⟩:=hrel;by_cases hlt:q<n
  ·have hst:=LH (HP.out q hlt)
   obtain⟨p,hp⟩ : ∃p,p=2^q:=⟨_,rfl⟩;rw [←hp] at hst⊢;have HPq:=LH hp;clear hp;obtain⟨p2,hp2⟩ : ∃p,p=2^ (q+1):=⟨_,rfl⟩;rw [←hp2] at hst;have HP2:=LH hp2;clear hp2;go_wp2_with fail;go_roundw
   case rel=>exact⟨q+1,hlt,by go_num,by rw [hst.out,HP2.out],hB⟩
   case measure=>simp [intOf];omega
  ·obtain rfl:q=n:=by omega
   go_wp2_with fail;go_ret;refine⟨?_,hB⟩;simp
theorem ref27_Right (s:Nat) (w:World) :Calls Tryz.prog 67 #[.int .u64 s] w fun e w'=>e=.returned (.bool (rightC s))∧Below w.heap.size w w':=by
 have e:decide ((s:Int) <281474976710656) =decide (s≤281474976710655):=decide_eq_decide.2 (by omega);have HB:Hid (Calls Tryz.prog 91 #[.int .i64 48] w fun e w'=>e=.returned (.int .u64 281474976710656)∧Below w.heap.size w w'):=LH (ref27_bit 48 (by decide) w);unfold rightC;rw [←e];clear e
 go_enter Tryz.func67,Tryz.ntmps67
 go_wp2_with fail;refine HB.out.mono ?_;rintro e w1 ⟨rfl,hb1⟩;go_wp2_with fail;go_ret;exact⟨rfl,hb1⟩
theorem ref_has {s n p:Nat} (hs:s<2^64) (hp:p=2^n) : ((IntKind.u64.wrap ((s:Int) / (p:Int))).tmod 2 == 1) =hasN s n:=by
 subst hp;have e: (s:Int) / ((2^n:Nat) :Int) = ((s / 2^n:Nat) :Int):=(Int.natCast_ediv s (2^n)).symm;have hl:s / 2^n≤s:=Nat.div_le_self _ _;rw [e];unfold hasN;generalize s / 2^n=q at hl⊢;rw [wrap_u64s (by omega) (by omega),Int.tmod_eq_emod_of_nonneg (by omega)];by_cases hc:q % 2=1
 ·have: (q:Int) % 2=1:=by omega
  simp [hc,this]
 ·have: (q:Int) % 2=0:=by omega
  simp [hc,this]
theorem ref27_Has (s:Nat) (i:Int) (hs:s<2^64) (w:World) :Calls Tryz.prog 49 #[.int .u64 s,.int .i64 i] w fun e w'=>e=.returned (.bool (hasC s i))∧Below w.heap.size w w':=by
 have HC:=LH (fun W=>ref27_Is i W);unfold hasC
 cases hc:isCrew i
 ·rw [hc] at HC
  clear hc
  go_enter Tryz.func49,Tryz.ntmps49
  go_wp2_with fail;refine(HC.out w).mono ?_;rintro e w1 ⟨rfl,hb1⟩;go_wp2_with fail;go_ret;exact⟨by simp,hb1⟩
 ·rw [hc] at HC
  obtain⟨n,rfl,hn⟩:=isCrew_nat hc;clear hc;have HB:=LH (fun W=>ref27_bit n (by omega) W);have hp:=pow_crew hn;have h0:=LH (fun p (h:p=2^n)=>ref_has hs h);obtain⟨p,hpe⟩ : ∃p,p=2^n:=⟨_,rfl⟩;have h1:=LH (h0.out p hpe);rw [←hpe] at HB hp;have hp1: ((p:Int) == 0) =false:=by simp;omega
  clear hpe h0;simp only [Int.toNat_natCast];generalize hasN s n=b at h1⊢
  go_enter Tryz.func49,Tryz.ntmps49
  go_wp2_with fail;refine(HC.out w).mono ?_;rintro e w1 ⟨rfl,hb1⟩;go_wp2_with fail;refine(HB.out w1).mono ?_;rintro e w2 ⟨rfl,hb2⟩;have B2:=LH (Below.then_ hb1 hb2);go_wp2_with fail;go_ret;refine⟨?_,B2.out⟩;have:=h1.out;simp [this]
theorem ref27_With (s:Nat) (i:Int) (hs:s<2^63) (w:World) :Calls Tryz.prog 55 #[.int .u64 s,.int .i64 i] w fun e w'=>e=.returned (.int .u64 (withC s i))∧Below w.heap.size w w':=by
 have HC:=LH (fun W=>ref27_Is i W);have HH:=LH (fun W=>ref27_Has s i (by omega) W);unfold withC
 cases hc:isCrew i
 ·rw [hc] at HC
  clear hc;simp only [Bool.false_eq_true,if_false]
  go_enter Tryz.func55,Tryz.ntmps55
  go_wp2_with fail;refine(HC.out w).mono ?_;rintro e w1 ⟨rfl,hb1⟩;go_wp2_with fail;go_ret;exact⟨rfl,hb1⟩
 ·have hh:hasC s i=hasN s i.toNat:=by unfold hasC;rw [hc];simp
  rw [hc] at HC;rw [hh] at HH;obtain⟨n,rfl,hn⟩:=isCrew_nat hc;clear hc hh;simp only [if_true,Int.toNat_natCast] at HH⊢;have HB:=LH (fun W=>ref27_bit n (by omega) W);have hp:=pow_crew hn
  cases hb:hasN s n
  ·rw [hb] at HH
   have hw:Hid (IntKind.u64.wrap ((s:Int) + ((2^n:Nat) :Int)) = ((s+2^n:Nat) :Int)):=LH (by rw [wrap_u64s (by omega) (by omega)];omega);obtain⟨p,hpe⟩ : ∃p,p=2^n:=⟨_,rfl⟩;rw [←hpe] at HB hw⊢;clear hpe hp hb;simp only [Bool.false_eq_true,if_false]
   go_enter Tryz.func55,Tryz.ntmps55
   go_wp2_with fail;refine(HC.out w).mono ?_;rintro e w1 ⟨rfl,hb1⟩;go_wp2_with fail;refine(HH.out w1).mono ?_;rintro e w2 ⟨rfl,hb2⟩;have B2:=LH (Below.then_ hb1 hb2);go_wp2_with fail;refine(HB.out w2).mono ?_;rintro e w3 ⟨rfl,hb3⟩;have B3:=LH (Below.then_ B2.out hb3);go_wp2_with fail;go_ret;refine⟨?_,B3.out⟩;have h2:=hw.out;simp only [Array.getD_eq_getD_getElem?];simp [h2]
  ·rw [hb] at HH
   clear hp hb HB;simp only [if_true]
   go_enter Tryz.func55,Tryz.ntmps55
   go_wp2_with fail;refine(HC.out w).mono ?_;rintro e w1 ⟨rfl,hb1⟩;go_wp2_with fail;refine(HH.out w1).mono ?_;rintro e w2 ⟨rfl,hb2⟩;have B2:=LH (Below.then_ hb1 hb2);go_wp2_with fail;go_ret;exact⟨rfl,B2.out⟩
structure Ltr where
 e:Int
 f:Int
 c:Nat
 b:List UInt8
def ltrV (x:Ltr) :Value:=.agg #[.int .i64 x.e,.int .i64 x.f,.int .u64 x.c,.string ⟨x.b.toArray⟩]
def rightL (x:Ltr) :Bool:=decide (0≤x.e) && hasC x.c x.f && rightC x.c && decide (x.b.length≤1048576)
def LtrAt (W:World) (g:Nat) (x:Ltr) :Prop:=W.heap[g]? =some (.cells #[.int .i64 x.e,.int .i64 x.f,.int .u64 x.c,.string ⟨x.b.toArray⟩] 108 (0,0))
theorem LtrAt.below {w w':World} {g:Nat} {x:Ltr} (h:LtrAt w g x) (hb:Below w.heap.size w w') :LtrAt w' g x:=bB h hb
theorem LtrAt.new (w:World) (x:Ltr) :LtrAt (w.alloc (.cells #[.int .i64 x.e,.int .i64 x.f,.int .u64 x.c,.string ⟨x.b.toArray⟩] 108)) w.heap.size x:=heap_alloc_new w _
theorem letter_Right (w:World) (x:Ltr) (hc:x.c<2^64) :Calls Tryz.prog 136 #[ltrV x] w fun e w'=>e=.returned (.bool (rightL x))∧Below w.heap.size w w':=by
 obtain⟨e,f,c,b⟩:=x;have HH:=LH (fun W=>crew_Has c f hc W);have HR:=LH (fun W=>crew_Right c W);have HB0:Hid (Below w.heap.size w (w.alloc (.cells #[.int .i64 e,.int .i64 f,.int .u64 c,.string ⟨b.toArray⟩] 108))):=LH bE;have HL0:=LH (LtrAt.new w ⟨e,f,c,b⟩);clear hc;unfold ltrV rightL;dsimp only;have hlb:decide ((b.length:Int)≤1048576) =decide (b.length≤1048576):=decide_eq_decide.2 (by omega);rw [←hlb];clear hlb;generalize hasC c f=z2 at HH⊢;generalize rightC c=z3 at HR⊢;by_cases h:0≤e
 ·have hd:decide (0≤e) =true:=by simpa using h
  rw [hd,Bool.true_and]
  cases z2
  ·rw [Bool.false_and,Bool.false_and]
   go_enter Tryz.func136,Tryz.ntmps136
   go_wp2_with fail;refine(HH.out _).mono ?_;rintro e1 w1 ⟨rfl,hb1⟩;have HB1:=LH (HB0.out.trans (hb1.mono (by simp)));clear hb1;go_wp2_with fail;exact bR (v:=.bool false) (by simp only [results,Tryz.results136];go_simp) rfl ⟨rfl,HB1.out⟩
  ·rw [Bool.true_and]
   generalize hZ: (z3 && decide ((b.length:Int)≤1048576)) =Z;have HZ:=LH hZ;clear hZ
   go_enter Tryz.func136,Tryz.ntmps136
   go_wp2_with fail;refine(HH.out _).mono ?_;rintro e1 w1 ⟨rfl,hb1⟩;have HB1:=LH (HB0.out.trans (hb1.mono (by simp)));have HL1:=LH (HL0.out.below hb1);clear hb1;have cc:=bC HL1.out;have cf:=bF HL1.out;have zb:=lB HL1.out;go_wp2_with fail;refine(HR.out _).mono ?_;rintro e2 w2 ⟨rfl,hb2⟩;have HB2:=LH (HB1.out.trans (hb2.mono HB1.out.size));have HL2:=LH (HL1.out.below hb2);clear hb2 cc cf zb;have cc2:=bC HL2.out;have cf2:=bF HL2.out;have zb2:=lB HL2.out
   cases z3
   ·go_wp2_with fail
    exact bR (v:=.bool false) (by simp only [results,Tryz.results136];go_simp) rfl ⟨by rw [←HZ.out,Bool.false_and],HB2.out⟩
   ·rw [Bool.true_and] at HZ
    go_wp2_with fail;exact bR (v:=.bool (decide ((b.length:Int)≤1048576))) (by simp only [results,Tryz.results136];go_simp) rfl ⟨by rw [←HZ.out],HB2.out⟩
 ·have hd:decide (0≤e) =false:=by simpa using h
  rw [hd,Bool.false_and,Bool.false_and,Bool.false_and]
  go_enter Tryz.func136,Tryz.ntmps136
  go_wp2_with fail;exact bR (v:=.bool false) (by simp only [results,Tryz.results136];go_simp) rfl ⟨rfl,HB0.out⟩
def ltrL (x:Ltr) :List Int:= [x.e,x.f,(x.c:Int),(x.b.length:Int)]
def ltrT (x:Ltr) :List UInt8:=sealT ([68,87,76,1] ++ putB (ltrL x) ++ x.b)
theorem letter_Encode (w:World) (x:Ltr) (h:rightL x=true) (he:i64 x.e) (hf:i64 x.f) :Calls Tryz.prog 84 #[ltrV x] w fun e w'=>e=.returned (.tuple #[.string ⟨(ltrT x).toArray⟩,.int .i64 0])∧Below w.heap.size w w':=by
 have hs:=h;simp only [rightL,hasC,rightC,isCrew,Bool.and_eq_true,decide_eq_true_eq] at hs;obtain⟨⟨⟨h1,⟨h2,_⟩⟩,h3⟩,h4⟩:=hs;have HR:=LH (fun W=>letter_Right W x (by omega));simp only [h] at HR;have HA0:=LH (LtrAt.new w x);have HB0:Hid (Below w.heap.size w (w.alloc (.cells #[.int .i64 x.e,.int .i64 x.f,.int .u64 x.c,.string ⟨x.b.toArray⟩] 108))):=LH bE;have hal: (ltrL x).all (fun y=>decide (0≤y)) =true:=by simp [ltrL];omega
 have hi: ∀y∈ltrL x,i64 y:=by
  intro y hy;simp only [ltrL,List.mem_cons,List.not_mem_nil,or_false] at hy;rcases hy with rfl|rfl|rfl|rfl
  ·exact he
  ·exact hf
  ·constructor <;> omega
  ·constructor <;> omega
 have HP:Hid (∀W,Calls Tryz.prog 133 #[.slice (some ⟨W.heap.size,0,none⟩) 4 4] (W.alloc (.cells #[.int .i64 x.e,.int .i64 x.f,.int .i64 (x.c:Int),.int .i64 (x.b.length:Int)] 3)) fun e w'=>e=.returned (.tuple #[.string ⟨(putB (ltrL x)).toArray⟩,.int .i64 0])∧Below W.heap.size W w'):=LH (fun W=>by
  have h5:=vary_Put _ _ _ (ltrL x) (Own.lit W encZ (ltrL x) 3 (Nat.le_refl _) (by simp [ltrL,maxLen])) hi (by simp [ltrL]) (by simp [ltrL]);refine h5.mono ?_;rintro e w' ⟨⟨t,he,ht⟩,hb⟩;rw [if_pos hal] at he;exact⟨by rw [he,ht hal],((Below.refl W.heap.size W).alloc (Nat.le_refl _) _).trans (hb.mono (by simp))⟩)
 have hcw:wrap64 (x.c:Int) = (x.c:Int):=by unfold wrap64;omega
 have hpl: (putB (ltrL x)).length≤36:=putB_len (L:=ltrL x) fun y hy=>(hi y hy).2
 have hlt: ([68,87,76,1] ++ putB (ltrL x) ++ x.b:List UInt8).length≤8000000:=by
  simp only [List.length_append,List.length_cons,List.length_nil];omega
 have HSe:=LH (fun W=>seal_Seal W ([68,87,76,1] ++ putB (ltrL x) ++ x.b) hlt);have hc1:=fun W=>run_string_add_lists (P:=Tryz.prog) W [68,87,76,1] (putB (ltrL x)) (by simp) (by omega);have hc2:=fun W=>run_string_add_lists (P:=Tryz.prog) W ([68,87,76,1] ++ putB (ltrL x)) x.b (by simp only [List.length_append,List.length_cons,List.length_nil];omega) (by omega);unfold ltrT;generalize hG:sealT ([68,87,76,1] ++ putB (ltrL x) ++ x.b) =G at HSe⊢;clear hG hlt hi hal;generalize hU: [68,87,76,1] ++ putB (ltrL x) =U at hc1 hc2 HSe;generalize putB (ltrL x) =V at HP hc1 hpl;generalize hY:U ++ x.b=Y at hc2 HSe;clear hU hY hpl he hf h h1 h2 h3;obtain⟨e,f,c,b⟩:=x;unfold ltrV at HR⊢;dsimp only at*
 go_enter Tryz.func84,Tryz.ntmps84
 go_wp2_with fail;refine(HR.out _).mono ?_;rintro e1 w1 ⟨rfl,hb1⟩;have HB1:=LH (HB0.out.trans (hb1.mono (by simp)));have HA1:=LH (HA0.out.below hb1);clear hb1;have cc:=bC HA1.out;have cf:=bF HA1.out;have zb:=lB HA1.out;go_wp2_with fail;refine(HP.out _).mono ?_;rintro e2 w2 ⟨rfl,hb2⟩;have HB2:=LH (HB1.out.trans (hb2.mono HB1.out.size));have HA2:=LH (HA1.out.below hb2);clear hb2 cc cf zb;have cc2:=bC HA2.out;have cf2:=bF HA2.out;have zb2:=lB HA2.out;go_wp2_with fail;refine(HSe.out _).mono ?_;rintro e3 w3 ⟨rfl,hb3⟩;have HB3:=LH (HB2.out.trans (hb3.mono HB2.out.size));clear hb3;go_wp2_with fail
 all_goals exact bR (v:=.tuple #[.string ⟨G.toArray⟩,.int .i64 0]) (by simp only [results,Tryz.results84];go_simp) rfl ⟨rfl,HB3.out⟩
def openT (s:List UInt8) :List UInt8×Int:=if s.length<4 then ([],9) else if sealT (s.take (s.length - 4)) =s then (s.take (s.length - 4),0) else ([],12)
theorem openT_len (s:List UInt8) : (openT s).1.length≤s.length:=by
 unfold openT
 split
 ·simp
 ·split
  ·simp
  ·simp
def noLtr:Ltr:=⟨0,0,0, []⟩
def decN (s0:List UInt8) :Ltr×Int:=
 let a:=getB s0
 if a.2.2≠0 then (noLtr,a.2.2) else
 let s1:=s0.drop a.2.1
 let b:=getB s1
 if b.2.2≠0 then (noLtr,b.2.2) else if isCrew b.1=false then (noLtr,10) else
 let s2:=s1.drop b.2.1
 let c:=getB s2
 if c.2.2≠0 then (noLtr,c.2.2) else if (rightC c.1 && hasC c.1 b.1) =false then (noLtr,10) else
 let s3:=s2.drop c.2.1
 let n:=getB s3
 if n.2.2≠0 then (noLtr,n.2.2) else if 1048576<n.1 then (noLtr,13) else
 let s4:=s3.drop n.2.1
 if s4.length<n.1 then (noLtr,9) else if n.1<s4.length then (noLtr,11) else (⟨a.1,b.1,c.1,s4⟩,0)
def decL (s:List UInt8) :Ltr×Int:=
 let o:=openT s
 if o.2≠0 then (noLtr,o.2) else if o.1.length<4 then (noLtr,9) else if o.1.take 4≠ [68,87,76,1] then (noLtr,10) else decN (o.1.drop 4)
theorem putB_cons (x:Int) (L:List Int) :putB (x :: L) =oneB x.toNat ++ putB L:=by simp [putB]
def cntF:List Int→List UInt8→Int→List Nd→List Nd×List UInt8×Int×Int
 | [],s,left,out=>(out,s,left,0)
 |id :: ids,s,left,out=>
  let g:=getB s
  if g.2.2≠0 then ([], [],0,g.2.2) else if g.1=0∨left< (g.1:Int) then ([], [],0,10) else cntF ids (s.drop g.2.1) (left - (g.1:Int)) (out ++ [(id,(g.1:Int))])
def readN (l:Nat) (s0:List UInt8) : (Nat×Int×Int×List Nd)×Int:=
 let k:=getB s0
 if k.2.2≠0 then ((0,0,0, []),k.2.2) else if k.1<1∨1048576<k.1 then ((0,0,0, []),10) else
 let s1:=s0.drop k.2.1
 let n:=getB s1
 if n.2.2≠0 then ((0,0,0, []),n.2.2) else if 72057594037927935<n.1 then ((0,0,0, []),10) else
 let s2:=s1.drop n.2.1
 let f:=fallB s2 (8* (k.1:Int))
 if f.2.2≠0 then ((0,0,0, []),f.2.2) else if (f.1.all fun id=>isNode l id) =false then ((0,0,0, []),10) else
 let c:=cntF f.1 (s2.drop f.2.1) (n.1:Int) []
 if c.2.2.2≠0 then ((0,0,0, []),c.2.2.2) else if c.2.1≠ [] then ((0,0,0, []),11) else if 0<c.2.2.1 then ((0,0,0, []),10) else
 if lightOf l c.1 (k.1:Int) =false then ((0,0,0, []),13) else ((l,(k.1:Int),(n.1:Int),c.1),0)
def readW (s:List UInt8) : (Nat×Int×Int×List Nd)×Int:=
 let o:=openT s
 if o.2≠0 then ((0,0,0, []),o.2) else if o.1.length<4 then ((0,0,0, []),9) else if o.1.take 4≠ [68,87,80,1] then ((0,0,0, []),10) else
 match o.1.drop 4 with
 | []=>((0,0,0, []),9)
 |b :: s0=>if b.toNat<1∨48<b.toNat then ((0,0,0, []),10) else readN b.toNat s0
def wireT (l:Nat) (k:Int) (r:List Nd) :List UInt8:=sealT ([68,87,80,1] ++ [UInt8.ofNat l] ++ putB [k,sumR r] ++ risesB (r.map (·.1)) ++ putB (r.map (·.2)))
structure Plc where
 me:Int
 kids:Nat
 wait:Int
structure Sen where
 l:Int
 k:Int
 kd:Int
 p:Plc
 ep:Int
 ti:Int
 heard:Nat
 cover:Nat
 sent:Bool
def plcV (p:Plc) :Value:=.agg #[.int .i64 p.me,.int .u64 p.kids,.int .i64 p.wait]
def SenAt (W:World) (g dg:Nat) (s:Sen) :Prop:=W.heap[g]? =some (.cells #[.int .i64 s.l,.int .i64 s.k,.int .i64 s.kd,.int .i64 s.p.me,.int .u64 s.p.kids,.int .i64 s.p.wait,.int .i64 s.ep,.int .i64 s.ti,.int .u64 s.heard,.int .u64 s.cover,.bool s.sent,.pointer (some ⟨dg,0,none⟩)] 116 (0,0))
theorem SenAt.below {w w':World} {g dg:Nat} {s:Sen} (h:SenAt w g dg s) (hb:Below w.heap.size w w') :SenAt w' g dg s:=bB h hb
theorem sensor_Epoch (w:World) (g dg:Nat) (s:Sen) (h:SenAt w g dg s) :Calls Tryz.prog 43 #[.pointer (some ⟨g,0,none⟩)] w fun e w'=>e=.returned (.int .i64 s.ep)∧Below w.heap.size w w':=by
 have cc:=bC h;have cf:=bF h;have zb:=lB h
 go_enter Tryz.func43,Tryz.ntmps43
 go_wp2_with fail;exact bR (v:=.int .i64 s.ep) (by simp only [results,Tryz.results43];go_simp) rfl ⟨rfl,bE⟩
theorem sensor_Heard (w:World) (g dg:Nat) (s:Sen) (h:SenAt w g dg s) :Calls Tryz.prog 22 #[.pointer (some ⟨g,0,none⟩)] w fun e w'=>e=.returned (.int .u64 s.heard)∧Below w.heap.size w w':=by
 have cc:=bC h;have cf:=bF h;have zb:=lB h
 go_enter Tryz.func22,Tryz.ntmps22
 go_wp2_with fail;exact bR (v:=.int .u64 s.heard) (by simp only [results,Tryz.results22];go_simp) rfl ⟨rfl,bE⟩
theorem sensor_Cover (w:World) (g dg:Nat) (s:Sen) (h:SenAt w g dg s) :Calls Tryz.prog 21 #[.pointer (some ⟨g,0,none⟩)] w fun e w'=>e=.returned (.int .u64 s.cover)∧Below w.heap.size w w':=by
 have cc:=bC h;have cf:=bF h;have zb:=lB h
 go_enter Tryz.func21,Tryz.ntmps21
 go_wp2_with fail;exact bR (v:=.int .u64 s.cover) (by simp only [results,Tryz.results21];go_simp) rfl ⟨rfl,bE⟩
theorem sensor_Ticks (w:World) (g dg:Nat) (s:Sen) (h:SenAt w g dg s) :Calls Tryz.prog 44 #[.pointer (some ⟨g,0,none⟩)] w fun e w'=>e=.returned (.int .i64 s.ti)∧Below w.heap.size w w':=by
 have cc:=bC h;have cf:=bF h;have zb:=lB h
 go_enter Tryz.func44,Tryz.ntmps44
 go_wp2_with fail;exact bR (v:=.int .i64 s.ti) (by simp only [results,Tryz.results44];go_simp) rfl ⟨rfl,bE⟩
theorem sensor_Sent (w:World) (g dg:Nat) (s:Sen) (h:SenAt w g dg s) :Calls Tryz.prog 34 #[.pointer (some ⟨g,0,none⟩)] w fun e w'=>e=.returned (.bool s.sent)∧Below w.heap.size w w':=by
 have cc:=bC h;have cf:=bF h;have zb:=lB h
 go_enter Tryz.func34,Tryz.ntmps34
 go_wp2_with fail;exact bR (v:=.bool s.sent) (by simp only [results,Tryz.results34];go_simp) rfl ⟨rfl,bE⟩
theorem sensor_Place (w:World) (g dg:Nat) (s:Sen) (h:SenAt w g dg s) :Calls Tryz.prog 42 #[.pointer (some ⟨g,0,none⟩)] w fun e w'=>e=.returned (plcV s.p)∧Below w.heap.size w w':=by
 unfold plcV;have cc:=bC h;have cf:=bF h;have zb:=lB h
 go_enter Tryz.func42,Tryz.ntmps42
 go_wp2_with fail;exact bR (v:=.agg #[.int .i64 s.p.me,.int .u64 s.p.kids,.int .i64 s.p.wait]) (by simp only [results,Tryz.results42];go_simp) rfl ⟨rfl,bE⟩
theorem fallF_rise (s:List UInt8) : ∀(m last a:Nat) (out:List Int),out.Pairwise (· < ·)→(∀x∈out,x≤(last:Int))→(fallF s m last a out).1.Pairwise (· < ·):=by
 intro m
 induction m with
 |zero=>intro last a out h _;simpa only [fallF] using h
 |succ m ih=>
  intro last a out h hl;simp only [fallF]
  split
  ·exact .nil
  ·split
   ·exact .nil
   ·rename_i h1 h2
    refine ih _ _ _ (List.pairwise_append.2 ⟨h,by simp,?_⟩) ?_
    ·intro x hx y hy
     simp only [List.mem_singleton] at hy;have:=hl x hx;omega
    ·intro x hx
     rcases List.mem_append.1 hx with hx|hx
     ·have:=hl x hx;omega
     ·simp only [List.mem_singleton] at hx;omega
theorem fallB_rise (s:List UInt8) (most:Int) : (fallB s most).1.Pairwise (· < ·):=by
 unfold fallB;simp only
 split
 ·exact .nil
 ·split
  ·exact .nil
  ·exact fallF_rise s _ _ _ _ .nil (by simp)
theorem cntF_ok: ∀(ids:List Int) (s:List UInt8) (left:Int) (out:List Nd),0≤left→(cntF ids s left out).2.2.2=0→
 ∃cs:List Nd,(cntF ids s left out).1=out ++ cs∧cs.map (·.1) =ids∧(∀x∈cs,1≤x.2)∧sumR cs+ (cntF ids s left out).2.2.1=left∧0≤(cntF ids s left out).2.2.1:=by
 intro ids
 induction ids with
 |nil=>intro s left out h0 _;exact⟨[],by simp [cntF],rfl,by simp,by simp [cntF,sumR],by simpa [cntF] using h0⟩
 |cons id ids ih=>
  intro s left out h0 h;simp only [cntF] at h⊢
  split at h
  ·rename_i h1;exact absurd h h1
  ·split at h
   ·exact absurd h (by decide)
   ·rename_i h1 h2
    rw [if_neg h1,if_neg h2];obtain⟨cs,e1,e2,e3,e4,e5⟩:=ih _ _ _ (by omega) h;refine⟨(id,((getB s).1:Int)) :: cs,?_,?_,?_,?_,e5⟩
    ·rw [e1,List.append_assoc];rfl
    ·simp [e2]
    ·intro x hx
     rcases List.mem_cons.1 hx with rfl|hx
     ·show (1:Int)≤((getB s).1:Int)
      omega
     ·exact e3 x hx
    ·simp only [sumR]
     omega
theorem roll_of_ids {r:List Nd} {ids:List Int} (h:r.map (·.1) =ids) (hp:ids.Pairwise (· < ·)) (h1: ∀x∈ids,1≤x) (h2: ∀x∈r,1≤x.2) :Roll r:=by
 subst h;exact⟨List.pairwise_map.1 hp,fun x hx=>⟨h1 _ (List.mem_map_of_mem hx),h2 x hx⟩⟩
structure ReadOk (m:Nat×Int×Int×List Nd) :Prop where
 l:1≤m.1∧m.1≤48
 k:1≤m.2.1∧m.2.1≤1048576
 fits:Fits m.1 m.2.2.2
 len: (m.2.2.2.length:Int)≤8*m.2.1
 light:lightOf m.1 m.2.2.2 m.2.1=true
 sum:sumR m.2.2.2=m.2.2.1
abbrev Read4:=(Nat×Int×Int×List Nd)×Int
def noRd (e:Int) :Read4:=((0,0,0, []),e)
def rd4 (l k n:Nat) (c:List Nd×List UInt8×Int×Int) :Read4:=
 if c.2.2.2≠0 then noRd c.2.2.2 else if c.2.1≠ [] then noRd 11 else if 0<c.2.2.1 then noRd 10 else if lightOf l c.1 (k:Int) =false then noRd 13 else ((l,(k:Int),(n:Int),c.1),0)
def rd3 (l k n:Nat) (f:List Int×Nat×Int) (s2:List UInt8) :Read4:=
 if f.2.2≠0 then noRd f.2.2 else if (f.1.all fun id=>isNode l id) =false then noRd 10 else rd4 l k n (cntF f.1 (s2.drop f.2.1) (n:Int) [])
def rd2 (l k:Nat) (n:Nat×Nat×Int) (s1:List UInt8) :Read4:=
 if n.2.2≠0 then noRd n.2.2 else if 72057594037927935<n.1 then noRd 10 else rd3 l k n.1 (fallB (s1.drop n.2.1) (8* (k:Int))) (s1.drop n.2.1)
def rd1 (l:Nat) (k:Nat×Nat×Int) (s0:List UInt8) :Read4:=
 if k.2.2≠0 then noRd k.2.2 else if k.1<1∨1048576<k.1 then noRd 10 else rd2 l k.1 (getB (s0.drop k.2.1)) (s0.drop k.2.1)
def rd0 (s:List UInt8) :Read4:=
 match s with
 | []=>noRd 9
 |b :: s0=>if b.toNat<1∨48<b.toNat then noRd 10 else rd1 b.toNat (getB s0) s0
def rdW (o:List UInt8×Int) :Read4:=if o.2≠0 then noRd o.2 else if o.1.length<4 then noRd 9 else if o.1.take 4≠ [68,87,80,1] then noRd 10 else rd0 (o.1.drop 4)
theorem readN_rd (l:Nat) (s0:List UInt8) :readN l s0=rd1 l (getB s0) s0:=rfl
theorem readW_rd (s:List UInt8) :readW s=rdW (openT s):=rfl
theorem rd3_ok {l k n:Nat} (hl:1≤l∧l≤48) (hk:1≤k∧k≤1048576) (hn:n≤72057594037927935) (s2:List UInt8) (h: (rd3 l k n (fallB s2 (8* (k:Int))) s2).2=0) :ReadOk (rd3 l k n (fallB s2 (8* (k:Int))) s2).1:=by
 have fr:=fallB_rise s2 (8* (k:Int));have fb:=fallB_bounds s2 (8* (k:Int));generalize fallB s2 (8* (k:Int)) =f at h fr fb⊢;unfold rd3 at h⊢
 split at h
 ·rename_i h1;exact absurd h h1
 rename_i a5
 split at h
 ·exact absurd h (by decide)
 rename_i a6;rw [if_neg a5,if_neg a6];have co:=cntF_ok f.1 (s2.drop f.2.1) (n:Int) [] (by omega);generalize cntF f.1 (s2.drop f.2.1) (n:Int) [] =c at h co⊢;unfold rd4 at h⊢
 split at h
 ·rename_i h1;exact absurd h h1
 rename_i a7
 split at h
 ·exact absurd h (by decide)
 rename_i a8
 split at h
 ·exact absurd h (by decide)
 rename_i a9
 split at h
 ·exact absurd h (by decide)
 rename_i a10;rw [if_neg a7,if_neg a8,if_neg a9,if_neg a10];obtain⟨cs,e1,e2,e3,e4,e5⟩:=co (by simpa using a7);rw [List.nil_append] at e1;rw [←e1] at e2 e3 e4;have hr:=roll_of_ids e2 fr (fun x hx=>(fb.2.1 x hx).1) e3
 have hnode: ∀x∈c.1,isNode l x.1=true:=by
  intro x hx;have hall: (f.1.all fun id=>isNode l id) =true:=by simpa using a6
  refine List.all_eq_true.1 hall x.1 ?_;rw [←e2];exact List.mem_map_of_mem hx
 refine⟨hl,⟨?_,?_⟩,⟨hr,?_,?_⟩,?_,?_,?_⟩
 ·show (1:Int)≤(k:Int);omega
 ·show (k:Int)≤1048576;omega
 ·intro x hx
  have:=(isNode_lt (hnode x hx)).2
  simpa using this
 ·show sumR c.1≤_;omega
 ·show ((c.1).length:Int)≤8* (k:Int)
  have hlen: (c.1).length=f.1.length:=by rw [←e2,List.length_map]
  have:=fb.2.2.2;omega
 ·show lightOf l c.1 (k:Int) =true
  simpa using a10
 ·show sumR c.1= (n:Int);omega
theorem readN_ok {l:Nat} (hl:1≤l∧l≤48) (s0:List UInt8) (h: (readN l s0).2=0) :ReadOk (readN l s0).1:=by
 rw [readN_rd] at h⊢;generalize getB s0=k at h⊢;unfold rd1 at h⊢
 split at h
 ·rename_i h1;exact absurd h h1
 rename_i a1
 split at h
 ·exact absurd h (by decide)
 rename_i a2;rw [if_neg a1,if_neg a2];generalize s0.drop k.2.1=s1 at h⊢;generalize getB s1=n at h⊢;unfold rd2 at h⊢
 split at h
 ·rename_i h1;exact absurd h h1
 rename_i a3
 split at h
 ·exact absurd h (by decide)
 rename_i a4;rw [if_neg a3,if_neg a4];exact rd3_ok hl (by omega) (by omega) _ h
theorem readW_ok (s:List UInt8) (h: (readW s).2=0) :ReadOk (readW s).1:=by
 rw [readW_rd] at h⊢;generalize openT s=o at h⊢;unfold rdW at h⊢
 split at h
 ·rename_i h1;exact absurd h h1
 rename_i a1
 split at h
 ·exact absurd h (by decide)
 rename_i a2
 split at h
 ·exact absurd h (by decide)
 rename_i a3;rw [if_neg a1,if_neg a2,if_neg a3];generalize o.1.drop 4=t at h⊢
 match t with
 | []=>exact absurd h (by decide)
 |b :: s0=>
  unfold rd0 at h⊢;dsimp only at h⊢
  split at h
  ·exact absurd h (by decide)
  ·rename_i a4
   rw [if_neg a4];exact readN_ok (by omega) s0 h
def apartC (a b:Nat) :Bool:=decide (a &&& b=0)
def refusedE (s:Sen) (x:Ltr) :Int:=if x.e≠s.ep then 17 else if hasC s.p.kids x.f=false then 16 else if s.sent=true then 18 else if hasC s.heard x.f=true∨apartC s.cover x.c=false then 19 else 0
def moreE (l:Nat) (k:Int) (r:List Nd) (m: (Nat×Int×Int×List Nd)×Int) :Int:=if m.2≠0 then m.2 else if m.1.1≠l∨m.1.2.1≠k then 6 else if 72057594037927935<sumR r+sumR m.1.2.2.2 then 5 else 0
def hearE (l:Nat) (s:Sen) (r:List Nd) (text:List UInt8) :Int:=
 if (decL text).2≠0 then (decL text).2 else if refusedE s (decL text).1≠0 then refusedE s (decL text).1 else moreE l s.k r (readW (decL text).1.b)
def heardS (s:Sen) (x:Ltr) :Sen:={s with heard:=withC s.heard x.f,cover:=s.cover ||| x.c}
def HearTo (l:Nat) (s:Sen) (r:List Nd) (text:List UInt8) (s':Sen) (r':List Nd) :Prop:=
 (hearE l s r text≠0∧s'=s∧r'=r)∨(hearE l s r text=0∧s'=heardS s (decL text).1∧Joined l s.k r (readW (decL text).1.b).1.2.2.2 r')
theorem Joined.unique {l:Nat} {k:Int} {a b c c':List Nd} (h:Joined l k a b c) (h':Joined l k a b c') :c=c':=by
 obtain⟨pa,sa,pb,sb,h1,h2,rfl⟩:=h.by_;obtain⟨pa',sa',pb',sb',h3,h4,rfl⟩:=h'.by_;rw [(h1.unique h3).2,(h2.unique h4).2]
theorem HearTo.unique {l:Nat} {s s1 s2:Sen} {r r1 r2:List Nd} {t:List UInt8} (h1:HearTo l s r t s1 r1) (h2:HearTo l s r t s2 r2) :s1=s2∧r1=r2:=by
 rcases h1 with ⟨a,rfl,rfl⟩ | ⟨a,rfl,b⟩
 ·rcases h2 with ⟨_,rfl,rfl⟩ | ⟨c,_,_⟩
  ·exact⟨rfl,rfl⟩
  ·exact absurd c a
 ·rcases h2 with ⟨c,_,_⟩ | ⟨_,rfl,d⟩
  ·exact absurd a c
  ·exact⟨rfl,b.unique d⟩
def Mrg14Post [Zone] (l:Nat) (k2:Int) (ra rb:List Nd) (w:World) (e:Ending) (w':World) :Prop:=
 ∃(rc:List Nd) (A:Option Addr) (c:Nat),e=.returned (.tuple #[.agg #[.int .i64 k2,.int .i64 l,.slice A rc.length c],.int .i64 0])∧Joined l k2 ra rb rc∧SlZ w' 154 encN A rc∧Below w.heap.size w w'
structure MgR [Zone] (w:World) (l:Nat) (ka kb:Int) (ra rb:List Nd) (A B:Option Addr) (ca cb:Nat) (W:World) :Prop where
 x:W.heap[w.heap.size]? =some (.cells #[.int .i64 ka,.int .i64 l,.slice A ra.length ca] 35 (0,0))
 y:W.heap[w.heap.size+1]? =some (.cells #[.int .i64 kb,.int .i64 l,.slice B rb.length cb] 35 (0,0))
 z:W.heap[w.heap.size+2]? =some (.cells #[.int .i64 0,.int .i64 0,.slice none 0 0] 35 (0,0))
 sa:SlZ W 154 encN A ra
 sb:SlZ W 154 encN B rb
 b:Below w.heap.size w W
theorem MgR.below [Zone] {w W W':World} {l:Nat} {ka kb:Int} {ra rb:List Nd} {A B:Option Addr} {ca cb:Nat} (h:MgR w l ka kb ra rb A B ca cb W) (hb:Below W.heap.size W W') :MgR w l ka kb ra rb A B ca cb W':=
 ⟨bB h.x hb,bB h.y hb,bB h.z hb,h.sa.below hb,h.sb.below hb,h.b.trans (hb.mono h.b.size)⟩
theorem run_low_len {l:Nat} {most:Int} {r s:List Nd} {ps:List Int} (hf:Fits l r) (h:RunTo l most r ps s) :Fits l s∧s.length≤r.length∧sumR s=sumR r:=⟨h.folded.fits hf,h.folded.len hf,h.folded.sum hf⟩
theorem ref14_Merge [Zone] (w:World) (l:Nat) (ka kb k2:Int) (A B:Option Addr) (ca cb:Nat) (ra rb:List Nd) (hl:1≤l∧l≤48) (hSa:SlZ w 154 encN A ra) (hSb:SlZ w 154 encN B rb) (fa:Fits l ra) (fb:Fits l rb)
 (la:lightOf l ra ka=true) (lb:lightOf l rb kb=true) (na:ra.length≤999) (nb:rb.length≤999) (hk1:1≤ka) (hk2:ka≤1048576) (hk3:1≤kb) (hk4:kb≤1048576) (hmin:k2=if kb<ka then kb else ka) (hs:sumR ra+sumR rb≤72057594037927935) :
 Calls Tryz.prog 53 #[.agg #[.int .i64 ka,.int .i64 l,.slice A ra.length ca],.agg #[.int .i64 kb,.int .i64 l,.slice B rb.length cb]] w (Mrg14Post l k2 ra rb w):=by
 have hk2a:1≤k2∧k2≤ka∧k2≤kb:=by rw [hmin];split <;> omega
 have HMi:=LH hmin;clear hmin;have HJ:=LH (fun pa sa pb sb h1 h2=>joined_of (pa:=pa) (pb:=pb) (sa:=sa) (sb:=sb) hl hk2a.1 fa fb (light_weaker fa.roll la hk2a.1 hk2a.2.1) (light_weaker fb.roll lb hk2a.1 hk2a.2.2) hs h1 h2);have Ia:=fits_ints fa hl.2;have Ib:=fits_ints fb hl.2;have HWa:=LH (fun W h=>ref13_Weight W ka l A ca ra h Ia (by unfold maxLen;omega));have HWb:=LH (fun W h=>ref13_Weight W kb l B cb rb h Ib (by unfold maxLen;omega));rw [tot_roll fa.roll fa.sum] at HWa;rw [tot_roll fb.roll fb.sum] at HWb;have HLa:=LH (fun W h=>ref14_Lower W l ka k2 A ca ra hl h fa Ia na hk2a.1 hk2a.2.1 hk2);have HLb:=LH (fun W h=>ref14_Lower W l kb k2 B cb rb hl h fb Ib nb hk2a.1 hk2a.2.2 hk4);unfold Low14Post at HLa HLb;have HFa:=LH (fun ps s (h:RunTo l (sumR ra / k2) ra ps s)=>run_low_len fa h);have HFb:=LH (fun ps s (h:RunTo l (sumR rb / k2) rb ps s)=>run_low_len fb h);have q0:=sumR_nonneg fa.roll;have q1:=sumR_nonneg fb.roll;have q2:=fa.sum;have q3:=fb.sum;have HSm:=LH (And.intro (show sumR ra=sumR ra from rfl) hs);have HN:=LH (And.intro na nb)
 have R0:Hid (MgR w l ka kb ra rb A B ca cb (((w.alloc (.cells #[.int .i64 ka,.int .i64 l,.slice A ra.length ca] 35)).alloc (.cells #[.int .i64 kb,.int .i64 l,.slice B rb.length cb] 35)).alloc (.cells #[.int .i64 0,.int .i64 0,.slice none 0 0] 35))):=
  LH ⟨(heap_new_lt _ _ _ (by simp;omega)).trans ((heap_new_lt _ _ _ (by simp)).trans (heap_alloc_new w _)),(heap_new_lt _ _ _ (by simp)).trans (heap_new_at (w.alloc _) _ _ (by simp)),heap_new_at ((w.alloc _).alloc _) _ _ (by simp),((hSa.alloc _).alloc _).alloc _,((hSb.alloc _).alloc _).alloc _,bE⟩
 have hw1:wrap64 (72057594037927935 - sumR rb) =72057594037927935 - sumR rb:=by unfold wrap64;omega
 have hw2:decide (72057594037927935 - sumR rb<sumR ra) =false:=by simp;omega
 clear hSa hSb fa fb la lb Ia Ib hs;generalize hta:sumR ra=ta at HWa q0 q2 hw2;generalize htb:sumR rb=tb at HWb q1 q3 hw1 hw2;clear hta htb
 go_enter Tryz.func53,Tryz.ntmps53
 go_upto_region 1 with fail;generalize (((w.alloc (.cells #[.int .i64 ka,.int .i64 l,.slice A ra.length ca] 35)).alloc (.cells #[.int .i64 kb,.int .i64 l,.slice B rb.length cb] 35)).alloc (.cells #[.int .i64 0,.int .i64 0,.slice none 0 0] 35)) =W0 at R0⊢;have cx:=bC R0.out.x;have zx:=lB R0.out.x;have cy:=bC R0.out.y;have zy:=lB R0.out.y;go_upto_region 3 with fail;refine rX (by kernel_rfl) (by kernel_rfl) ?_
 repeat (go_big_quiet_step (first
  | (go_at_call_of 52 (Value.agg #[.int .i64 ka,.int .i64 l,.slice A ra.length ca]);exact quiet_ext (HWa.out _ ((R0.out.sa.below (ext_below _ _)).sl)))
  | (go_at_call_of 52 (Value.agg #[.int .i64 kb,.int .i64 l,.slice B rb.length cb]);exact quiet_ext (HWb.out _ ((R0.out.sb.below (ext_below _ _)).sl)))))
 refine wpQuiet_nil ?_;intro w1 hb1;replace hb1:=bX hb1;have R1:=LH (R0.out.below hb1);clear hb1 R0 cx zx cy zy HWa HWb;have cx:=bC R1.out.x;have zx:=lB R1.out.x;have cy:=bC R1.out.y;have zy:=lB R1.out.y
 go_upto_if 31 with fail
 go_cut [6] (fun kv W=>kv=.int .i64 k2∧W=w1)
 case first=>
  by_cases hc:kb<ka
  ·have hmin:=HMi.out.trans (if_pos hc)
   have HM2:=LH hmin;clear hmin;have hcd:decide (kb<ka) =true:=by simpa using hc
   go_wp2_with fail
   go_meet
   exact⟨by rw [HM2.out],rfl⟩
  ·have hmin:=HMi.out.trans (if_neg hc)
   have HM2:=LH hmin;clear hmin;have hcd:decide (kb<ka) =false:=by simpa using hc
   go_wp2_with fail
   go_meet
   exact⟨by rw [HM2.out],rfl⟩
 case rest=>
  obtain⟨rfl,rfl⟩:=hcut;go_wp2_with fail;refine(HLa.out wc R1.out.sa).mono ?_;rintro e w2 ⟨pa,sa,As,cs,rfl,hra,hsa,hb2⟩;have R3:=LH ((R1.out.below hb2).below ((Below.refl w2.heap.size w2).alloc (Nat.le_refl _) (.cells #[.int .i64 k2,.int .i64 l,.slice As sa.length cs] 35)));have V3:=LH (heap_alloc_new w2 (.cells #[.int .i64 k2,.int .i64 l,.slice As sa.length cs] 35));have SA3:=LH (hsa.alloc (.cells #[.int .i64 k2,.int .i64 l,.slice As sa.length cs] 35));have HRa:=LH hra;have hp2:w.heap.size+3≤w2.heap.size:=by have h1:=lB R1.out.z;have h2:=hb2.size;omega
  clear hb2 hsa hra R1 cx zx cy zy HLa;go_upto_region 9 with fail;obtain⟨pv,hpv⟩ : ∃q,q=w2.heap.size:=⟨_,rfl⟩;rw [←hpv] at V3 hp2⊢;generalize w2.alloc (.cells #[.int .i64 k2,.int .i64 l,.slice As sa.length cs] 35) =w3 at R3 V3 SA3⊢;clear hpv;have cy:=bC R3.out.y;have zy:=lB R3.out.y;go_wp2_with fail;refine(HLb.out w3 R3.out.sb).mono ?_;rintro e w4 ⟨pb,sb,Bs,ds,rfl,hrb,hsb,hb4⟩;have R5:=LH ((R3.out.below hb4).below ((Below.refl w4.heap.size w4).alloc (Nat.le_refl _) (.cells #[.int .i64 k2,.int .i64 l,.slice Bs sb.length ds] 35)));have V5:=LH (bB (bB V3.out hb4) ((Below.refl w4.heap.size w4).alloc (Nat.le_refl _) (.cells #[.int .i64 k2,.int .i64 l,.slice Bs sb.length ds] 35)));have U5:=LH (heap_alloc_new w4 (.cells #[.int .i64 k2,.int .i64 l,.slice Bs sb.length ds] 35));have SA5:=LH ((SA3.out.below hb4).alloc (.cells #[.int .i64 k2,.int .i64 l,.slice Bs sb.length ds] 35));have SB5:=LH (hsb.alloc (.cells #[.int .i64 k2,.int .i64 l,.slice Bs sb.length ds] 35));have HRb:=LH hrb;clear hb4 hsb hrb R3 cy zy HLb V3 SA3;go_upto_region 10 with fail;obtain⟨pu,hpu⟩ : ∃q,q=w4.heap.size:=⟨_,rfl⟩;rw [←hpu] at U5⊢;generalize w4.alloc (.cells #[.int .i64 k2,.int .i64 l,.slice Bs sb.length ds] 35) =w5 at R5 V5 U5 SA5 SB5⊢;clear hpu;have HFas:=LH (HFa.out pa sa HRa.out);have HFbs:=LH (HFb.out pb sb HRb.out);have HJn:=LH (HJ.out pa sa pb sb HRa.out HRb.out);have HJo:=LH (fun W h1 h2=>ref06_Join W As Bs cs ds sa sb h1 h2 HFas.out.1.roll HFbs.out.1.roll (fits_ints HFas.out.1 hl.2) (fits_ints HFbs.out.1 hl.2) (by rw [HFas.out.2.2,HFbs.out.2.2];exact HSm.out.2) (by have h1:=HFas.out.2.1;have h2:=HFbs.out.2.1;have h3:=HN.out;omega));unfold RollPost at HJo;generalize joinR sa sb=rc at HJn HJo;have cv:=bC V5.out;have zv:=lB V5.out;have fv:=bF V5.out;have cu:=bC U5.out;have zu:=lB U5.out;go_wp2_with fail;refine(HJo.out w5 SA5.out.sl SB5.out.sl).mono ?_;rintro e w6 ⟨v,rfl,ho,hb6⟩;obtain⟨Ac,cc,rfl,_⟩:=ho.form;have R6:=LH (R5.out.below hb6);have V6:=LH (bB V5.out hb6);have S6:=LH (ho.slZ SA5.out.n hb6.size);clear ho hb6 cv zv fv cu zu R5 V5 U5 SA5 SB5 HFa HFb HJ HJo HFas HFbs;have cv:=bC V6.out;have zv:=lB V6.out;have fv:=bF V6.out;go_upto_region 11 with fail;have V7:Hid ((w6.setCell ⟨pv,2,none⟩ (.slice Ac rc.length cc)).heap[pv]? =some (.cells #[.int .i64 k2,.int .i64 l,.slice Ac rc.length cc] 35 (0,0))):=LH (zH (i:=2) V6.out _);have Z7:Hid ((w6.setCell ⟨pv,2,none⟩ (.slice Ac rc.length cc)).heap[w.heap.size+2]? =some (.cells #[.int .i64 0,.int .i64 0,.slice none 0 0] 35 (0,0))):=LH ((Below.heap_setCell _ _ _ _ (by simp;omega)).trans R6.out.z);have S7:=LH (S6.out.setCellT (p:=⟨pv,2,none⟩) (u:=.slice Ac rc.length cc) (t:=35) (.of V6.out) (by decide));have B7:=LH (R6.out.b.setCell (p:=⟨pv,2,none⟩) (by simp;omega) (.slice Ac rc.length cc));clear cv zv fv R6 V6 S6;generalize w6.setCell ⟨pv,2,none⟩ (.slice Ac rc.length cc) =w7 at V7 Z7 S7 B7⊢;have cv:=bC V7.out;have zv:=lB V7.out;have cz:=bC Z7.out;have zz:=lB Z7.out;have fz:=bF Z7.out;have Y:=LH (dig_store Z7.out (.int .i64 k2) (.int .i64 l) (.slice Ac rc.length cc));have S:=LH (dig_slT Z7.out S7.out (.int .i64 k2) (.int .i64 l) (.slice Ac rc.length cc));have B:=LH (dig_below B7.out (q:=w.heap.size+2) (by simp) (.int .i64 k2) (.int .i64 l) (.slice Ac rc.length cc));go_wp2_with fail;clear cv zv cz zz fz;generalize (((w7.setCell ⟨w.heap.size+2,0,none⟩ (.int .i64 k2)).setCell ⟨w.heap.size+2,1,none⟩ (.int .i64 l)).setCell ⟨w.heap.size+2,2,none⟩ (.slice Ac rc.length cc)) =wz at Y S B⊢;have ce:=bC Y.out;have fe:=bF Y.out;have ze:=lB Y.out;exact bR (v:=.tuple #[.agg #[.int .i64 k2,.int .i64 l,.slice Ac rc.length cc],.int .i64 0]) (by simp only [results,Tryz.results53];go_simp) rfl (show Mrg14Post l k2 ra rb w _ _ from⟨rc,Ac,cc,rfl,HJn.out,S.out,B.out⟩)
theorem PreTo.unique {l:Nat} {k:Int} {r s1 s2:List Nd} {id:Int} (p1:PreTo l k r id s1) (p2:PreTo l k r id s2) :s2=s1:=by
 rcases p1 with ⟨q1,q2,ps,q3⟩ | ⟨q1,rfl⟩
 ·rcases p2 with ⟨_,_,ps2,t3⟩ | ⟨t1,_⟩
  ·exact(t3.unique q3).2
  ·exact absurd ⟨q1,q2⟩ t1
 ·rcases p2 with ⟨t1,t2,_⟩ | ⟨_,rfl⟩
  ·exact absurd ⟨t1,t2⟩ q1
  ·rfl
theorem InsTo.unique {l:Nat} {k:Int} {r:List Nd} {x c:Int} {a b:List Nd} (h1:InsTo l k r x c a) (h2:InsTo l k r x c b) :b=a:=by
 rcases h1 with ⟨e1,rfl⟩ | ⟨e1,s1,p1,rfl⟩
 ·rcases h2 with ⟨_,rfl⟩ | ⟨f1,_⟩
  ·rfl
  ·exact absurd f1 e1
 ·rcases h2 with ⟨f1,_⟩ | ⟨f1,s2,p2,rfl⟩
  ·exact absurd e1 f1
  ·rw [p1.unique p2]
theorem DoTo.unique {l:Nat} {k:Int} {r:List Nd} {o:Op3} {a b:List Nd} {n m:Int} (h1:DoTo l k r o a n) (h2:DoTo l k r o b m) :b=a∧m=n:=by
 rcases h1 with ⟨e1,ps,q1,rfl⟩ | ⟨e1,rfl,rfl⟩ | ⟨e1,e2,q1,rfl⟩
 ·rcases h2 with ⟨_,ps2,q2,rfl⟩ | ⟨f1,_⟩ | ⟨f1,_⟩
  ·obtain⟨rfl,rfl⟩:=q2.unique q1;exact⟨rfl,rfl⟩
  ·omega
  ·exact absurd e1 f1
 ·rcases h2 with ⟨f1,_⟩ | ⟨_,rfl,rfl⟩ | ⟨_,f2,_⟩
  ·omega
  ·exact⟨rfl,rfl⟩
  ·exact absurd e1 f2
 ·rcases h2 with ⟨f1,_⟩ | ⟨f1,_⟩ | ⟨_,_,q2,rfl⟩
  ·exact absurd f1 e1
  ·exact absurd f1 e2
  ·exact⟨q1.unique q2,rfl⟩
def OfTo (l:Nat) (k:Int) :List Nd→List Op3→List Nd→Prop
 |r, [],s=>s=r
 |r,o :: L,s=>∃r' n,DoTo l k r o r' n∧OfTo l k r' L s
theorem OfTo.snoc {l:Nat} {k:Int} {o:Op3} : ∀{L:List Op3} {r s s':List Nd} {n:Int},OfTo l k r L s→DoTo l k s o s' n→OfTo l k r (L ++ [o]) s':=by
 intro L
 induction L with
 |nil=>intro r s s' n h h2;cases h;exact⟨s',n,h2,rfl⟩
 |cons p L ih=>
  intro r s s' n h h2;obtain⟨r',m,h3,h4⟩:=h;exact⟨r',m,h3,ih h4 h2⟩
theorem OfTo.take {l:Nat} {k:Int} {L:List Op3} {r s s':List Nd} {n:Int} {q:Nat} (hq:q<L.length) (h:OfTo l k r (L.take q) s) (h2:DoTo l k s L[q] s' n) :OfTo l k r (L.take (q+1)) s':=by
 rw [List.take_succ_eq_append_getElem hq];exact h.snoc h2
theorem OfTo.unique {l:Nat} {k:Int} : ∀{L:List Op3} {r a b:List Nd},OfTo l k r L a→OfTo l k r L b→b=a:=by
 intro L
 induction L with
 |nil=>intro r a b h1 h2;cases h1;cases h2;rfl
 |cons o L ih=>
  intro r a b h1 h2;obtain⟨r1,n1,d1,t1⟩:=h1;obtain⟨r2,n2,d2,t2⟩:=h2;obtain⟨rfl,rfl⟩:=d1.unique d2;exact ih t1 t2
def bagL3 (l:Nat) :List Nd→List Op3→List Nd
 |m, []=>m
 |m,o :: L=>bagL3 l (if o.1=1 then m else if o.1=2 then [] else (addB l m o.2.1 o.2.2).1) L
theorem insErr_add {l:Nat} {r m:List Nd} (h:sumR r=sumR m) (x c:Int) :insErr l r x c≠0→(addB l m x c).1=m:=by
 intro he;unfold insErr at he;unfold Go.Proofs.YtandlhihcnadmaaGreat.addB
 split at he
 ·rename_i h1;rw [if_pos h1]
 ·rename_i h1
  rw [if_neg h1]
  split at he
  ·rename_i h2;rw [if_pos h2]
  ·rename_i h2
   rw [if_neg h2]
   split at he
   ·rename_i h3;rw [if_pos (by rw [←h];exact h3)]
   ·exact absurd rfl he
theorem Held.of {l:Nat} {k:Int} (hl:1≤l∧l≤48) (hk:1≤k) : ∀{L:List Op3} {r m s:List Nd},Held l k r m→OfTo l k r L s→Held l k s (bagL3 l m L):=by
 intro L
 induction L with
 |nil=>intro r m s h ho;cases ho;exact h
 |cons o L ih=>
  intro r m s h ho;obtain⟨r',n,hd,ht⟩:=ho;have h1:=h.do_ hl hk hd
  have e:bagDo l m o n= (if o.1=1 then m else if o.1=2 then [] else (addB l m o.2.1 o.2.2).1):=by
   unfold bagDo;rcases hd with ⟨e1,_⟩ | ⟨e1,_⟩ | ⟨e1,e2,hI,hn⟩
   ·rw [if_neg (by omega),if_neg (by omega),if_pos e1]
   ·rw [if_pos e1,if_neg (by omega),if_pos e1]
   ·rw [if_neg e2,if_neg e1,if_neg e2]
    by_cases h0:n=0
    ·rw [if_pos ⟨e1,h0⟩]
    ·rw [if_neg (fun h=>h0 h.2),insErr_add h.sum _ _ (by rw [←hn];exact h0)]
  rw [e] at h1;exact ih h1 ht
theorem OfTo.fits {l:Nat} {k:Int} (hl:1≤l∧l≤48) (hk:1≤k) {L:List Op3} {s:List Nd} (h:OfTo l k [] L s) :Fits l s∧lightOf l s k=true:=⟨((Held.nil l k).of hl hk h).fits,((Held.nil l k).of hl hk h).light⟩
theorem OfTo.room {l:Nat} {k:Int} (hl:1≤l∧l≤48) (hk:1≤k) : ∀{L:List Op3} {r m s:List Nd},Held l k r m→(r.length:Int)≤8*k→OfTo l k r L s→(s.length:Int)≤8*k:=by
 intro L
 induction L with
 |nil=>intro r m s h hr ho;cases ho;exact hr
 |cons o L ih=>
  intro r m s h hr ho;obtain⟨r',n,hd,ht⟩:=ho;exact ih (h.do_ hl hk hd) (hd.room h.fits hl hk hr) ht
def encO:Enc Op3 3:=⟨fun x=> [.int .i64 x.1,.int .i64 x.2.1,.int .i64 x.2.2],fun _=>rfl,by intro x u hu;simp at hu;rcases hu with rfl|rfl|rfl <;> rfl⟩
def intsO (l:List Op3) :Prop:=∀x∈l,i64 x.1∧i64 x.2.1∧i64 x.2.2
section
variable {H:Type} {enc:TypeId×Value→H} {w:World} {base:Nat} {spare:Nat→Bool} {held:Bool} {fuel:Nat} {cs:List Value} {x:DataW H×List MemPlace}
theorem op3_of_trod (h:DataW.trod enc Tryz.prog w base spare held fuel 132 cs=some x) : ∃o:Op3,cs=encO.enc o∧i64 o.1∧i64 o.2.1∧i64 o.2.2:=by
 obtain⟨xs,n,_,_,hlen,hxl,hf⟩:=DataW.trod_struct Tryz.underlying132 h;have hC: (Tryz.prog).cellsOf 132=3:=by kernel_rfl
 have hCi: (Tryz.prog).cellsOf 3=1:=by kernel_rfl
 rw [hC] at hlen
 match cs,hlen with
 | [c0,c1,c2],_=>
  match xs,hxl with
  | [y0,y1,y2],_=>
   have g0:DataW.trod enc Tryz.prog w base spare held n 3 (([c0,c1,c2].drop 0).take ((Tryz.prog).cellsOf 3)) =some y0:=hf 0 _ rfl;have g1:DataW.trod enc Tryz.prog w base spare held n 3 (([c0,c1,c2].drop 1).take ((Tryz.prog).cellsOf 3)) =some y1:=hf 1 _ rfl;have g2:DataW.trod enc Tryz.prog w base spare held n 3 (([c0,c1,c2].drop 2).take ((Tryz.prog).cellsOf 3)) =some y2:=hf 2 _ rfl;simp only [hCi] at g0 g1 g2;obtain⟨k,e0,_,k0⟩:=DataW.trod_int Tryz.underlying3 g0;obtain⟨i,e1,_,k1⟩:=DataW.trod_int Tryz.underlying3 g1;obtain⟨j,e2,_,k2⟩:=DataW.trod_int Tryz.underlying3 g2;simp at e0 e1 e2
   subst e0 e1 e2;exact⟨(k,i,j),rfl,i64_of_wf k0,i64_of_wf k1,i64_of_wf k2⟩
theorem ops_of_trod (h:DataW.trod enc Tryz.prog w base spare held fuel 40 cs=some x) : ∃(l:List Op3) (A:Option Addr) (cap:Nat),cs= [.slice A l.length cap]∧Sl w w.heap.size encO A l∧intsO l∧l.length≤maxLen:=by
 obtain⟨l,A,cap,h1,h2,h3,h4⟩:=slice_of_trod encO (fun o=>i64 o.1∧i64 o.2.1∧i64 o.2.2) Tryz.underlying40 (by kernel_rfl) (by decide) (fun _ _ _ h=>op3_of_trod h) h;exact⟨l,A,cap,h1,h2,h3,h4⟩
end
def callsV (l k K:Int) (A:Option Addr) (n cap:Nat) :Value:=.agg #[.int .i64 l,.int .i64 k,.int .i64 K,.slice A n cap]
theorem cell_lt {W:World} {b o:Nat} {v:Value} (h:W.cell? ⟨b,o,none⟩ =some v) :b<W.heap.size:=by
 rcases Nat.lt_or_ge b W.heap.size with h'|h'
 ·exact h'
 ·simp [World.cell?,Array.getElem?_eq_none h'] at h
theorem ref22_One (w:World) (n:Nat) (hn:n≤9223372036854775807) :
 Calls Tryz.prog 118 #[.int .i64 n] w fun e w'=>e=.returned (.string ⟨(oneB n).toArray⟩)∧Below w.heap.size w w':=by
 have HL:=LH (oneB_le hn)
 go_enter Tryz.func118,Tryz.ntmps118
 go_wp2_with fail
 go_loopw [0,3] (fun i u wr=>∃(m:Nat) (pre:List UInt8),i=.int .i64 m∧m≤n∧Own wr w.heap.size 5 encB8 u pre∧pre ++ oneB m=oneB n∧Below w.heap.size w wr) (fun i _ _=>(intOf i).toNat)
 case atStart=>exact⟨n, [],rfl,Nat.le_refl _,Own.nil _ _ _ _,rfl,Below.refl _ _⟩
 case round=>
  obtain⟨m,pre,rfl,hm,ho,he,hB⟩:=hrel
  have hpl:pre.length≤8:=by
   have h1:=HL.out;have h2:=oneB_pos m;rw [←he,List.length_append] at h1;omega
  have HB:=LH hB;have HE:=LH he;obtain⟨Ao,co,rfl,_⟩:=ho.form;have HOr:=LH ho;have sz:=hB.size;clear ho he hB;by_cases h:128≤m
  ·have h1: (127:Int) < (m:Int):=by omega
   have HE2:Hid ((pre ++ [UInt8.ofNat (m % 128+128)]) ++ oneB (m / 128) =oneB n):=LH (by rw [←HE.out,oneB_ge h];simp);have hbo: (128:Int) + (m:Int) % 128= (((UInt8.ofNat (m % 128+128)).toNat:Nat) :Int):=by rw [UInt8.toNat_ofNat'];omega
   generalize UInt8.ofNat (m % 128+128) =b at hbo HE2;go_wp2_with ((at_builtin;go_loud (refine wpList_push tyU8 rfl _ _ rfl encB8 wr w.heap.size (.slice Ao pre.length co) pre rfl HOr.out b (by go_simp) (by simp [encB8,hbo]) ?c1 ?c2 ?c3 ?c4)))
   case c1=>omega
   case c2=>unfold maxLen;omega
   case c3=>omega
   case c4=>
    intro v' w' ho' _ _ _ hb' _;have HO2:=LH ho';have HB2:=LH (HB.out.trans hb');have hsz:=hb'.size;clear ho' hb';go_wp2_with fail;go_roundw
    case rel=>exact⟨m / 128,pre ++ [b],by go_num,by omega,HO2.out,HE2.out,HB2.out⟩
    case measure=>simp [intOf];omega
  ·have h1: ¬(127:Int) < (m:Int):=by omega
   have HE2:Hid (pre ++ [UInt8.ofNat m] =oneB n):=LH (by rw [←HE.out,oneB_lt h]);have hbo:=byte_one' h;generalize UInt8.ofNat m=b at hbo HE2;go_wp2_with ((at_builtin;go_loud (refine wpList_push tyU8 rfl _ _ rfl encB8 wr w.heap.size (.slice Ao pre.length co) pre rfl HOr.out b (by go_simp) (by simp [encB8,hbo]) ?d1 ?d2 ?d3 ?d4)))
   case d1=>omega
   case d2=>unfold maxLen;omega
   case d4=>
    intro v' w' ho' _ _ _ hb' _;rw [HE2.out] at ho';have hp:=oneB_pos n;obtain⟨bb,oo,cc,rfl,_⟩:=own_at0 ho' hp;have hcv:=run_convert_bytes_back (P:=Tryz.prog) w' 129 9 5 ⟨bb,oo,none⟩ cc (oneB n) Tryz.underlying129 Tryz.underlying5 Tryz.underlying9 (bytes_back ho');have HB2:=LH (HB.out.trans hb');have hlen:pre.length+1= (oneB n).length:=by rw [←HE2.out];simp
    clear ho' hb';generalize hG:oneB n=G at hcv hlen⊢;have HG:=LH hG;clear hG;go_wp2_with fail;exact bR (v:=.string ⟨G.toArray⟩) (by simp only [results,Tryz.results118];go_simp) rfl ⟨by rw [HG.out],HB2.out⟩
theorem p128 {a:Nat} (h:a≤8) :128^a≤72057594037927936∧1≤128^a:=by
 have h1:128^a≤128^8:=Nat.pow_le_pow_right (by decide) h;have h2: (128:Nat) ^8=72057594037927936:=by decide
 have h3:0<128^a:=Nat.pow_pos (by decide);omega
theorem p128_next {a:Nat} (h:a<8) :wrap64 (128* ((128^a:Nat) :Int)) = ((128^ (a+1) :Nat) :Int):=by
 have h1:=(p128 (a:=a) (by omega)).1;have h2:128^ (a+1) =128*128^a:=by rw [Nat.pow_succ];omega
 have h3:=(p128 (a:=a+1) (by omega)).1;unfold wrap64;omega
theorem p128_mul {a x:Nat} (h:a≤8) (hx:x≤127) :wrap64 ((x:Int) * ((128^a:Nat) :Int)) = ((x*128^a:Nat) :Int)∧x*128^a≤127*128^a:=by
 have h1:=p128 h;have h2:x*128^a≤127*128^a:=Nat.mul_le_mul_right _ hx;refine⟨?_,h2⟩;have e: (x:Int) * ((128^a:Nat) :Int) = ((x*128^a:Nat) :Int):=by norm_cast
 rw [e];unfold wrap64;omega
theorem p128_sum {a acc x:Nat} (h:a≤8) (hx:x≤127) (ha:acc<128^a) :wrap64 ((acc:Int) + ((x*128^a:Nat) :Int)) = ((acc+x*128^a:Nat) :Int)∧acc+x*128^a<128^ (a+1):=by
 have h1:=p128 h;have h2:=(p128_mul h hx).2;have h3:128^ (a+1) =128*128^a:=by rw [Nat.pow_succ];omega
 refine⟨?_,by omega⟩;unfold wrap64;omega
def GetPost (s:List UInt8) (w:World) (e:Ending) (w':World) :Prop:=e=.returned (.tuple #[.int .i64 (getB s).1,.int .i64 (getB s).2.1,.int .i64 (getB s).2.2])∧Below w.heap.size w w'
theorem ref22_Get (w:World) (s:List UInt8) (hs:s.length≤1000000000) :
 Calls Tryz.prog 65 #[.string ⟨s.toArray⟩] w (GetPost s w):=by
 unfold GetPost
 go_enter Tryz.func65,Tryz.ntmps65
 go_wp2_with fail
 go_loopw [5,6,7] (fun n p i wr=>∃(q acc:Nat),i=.int .i64 q∧q≤9∧q≤s.length∧n=.int .i64 acc∧acc<128^q∧(q<9→p=.int .i64 ((128^q:Nat) :Int))∧getF q acc (s.drop q) =getB s∧Below w.heap.size w wr) (fun _ _ i _=>9 - (intOf i).toNat)
 case atStart=>exact⟨0,0,rfl,by omega,by omega,rfl,by decide,fun _=>rfl,rfl,Below.refl _ _⟩
 case round=>
  obtain⟨q,acc,rfl,hq,hql,rfl,hacc,hp,hg,hB⟩:=hrel;have HB:=LH hB;have HG:=LH hg;clear hg hB;by_cases h9:q<9
  ·obtain rfl:=hp h9
   have h9i: (q:Int) <9:=by omega
   by_cases hl:q<s.length
   ·have hne: ((q:Int) == (s.length:Int)) =false:=by simp;omega
    have hix:=fun W=>text_at W s q hl;have hd:s.drop q=s[q] :: s.drop (q+1):=List.drop_eq_getElem_cons hl;rw [hd] at HG;have hbl: (s[q]).toNat<256:=(s[q]).toNat_lt;clear hd;generalize s[q] =y at HG hbl hix;have HY:=LH (And.intro (getF_last (a:=q) (acc:=acc) (b:=y) (t:=s.drop (q+1)) h9) (And.intro (getF_zero (a:=q) (acc:=acc) (b:=y) (t:=s.drop (q+1)) h9) (getF_more (a:=q) (acc:=acc) (b:=y) (t:=s.drop (q+1)) h9)));generalize y.toNat=b at hbl hix HY;by_cases hb:b<128
    ·have hbi: (b:Int) <128:=by omega
     by_cases h0:0<q∧b=0
     ·have HE:=LH ((HY.out.2.1 hb h0).symm.trans HG.out)
      obtain⟨h1,rfl⟩:=h0;have h1i: (0:Int) < (q:Int):=by omega
      clear HY HG;go_wp2_with fail;exact bR (v:=.tuple #[.int .i64 0,.int .i64 0,.int .i64 10]) (by simp only [results,Tryz.results65];go_simp) rfl ⟨by rw [←HE.out];rfl,HB.out⟩
     ·have HE:=LH ((HY.out.1 hb h0).symm.trans HG.out)
      have hm:=p128_mul (a:=q) (x:=b) (by omega) (by omega);have ha:=(p128_sum (a:=q) (acc:=acc) (x:=b) (by omega) (by omega) hacc).1;clear HY HG;generalize 128^q=p at hacc hm ha HE;obtain⟨hm,hm2⟩:=hm;generalize b*p=bp at hm hm2 ha HE;rcases Nat.eq_zero_or_pos q with h1|h1
      ·have h2:decide (0<q) =false:=by simp;omega
       have H1:=LH h1;clear h0 h1;go_wp2_with fail;exact bR (v:=.tuple #[.int .i64 ((acc:Int) + (bp:Int)),.int .i64 ((q:Int) +1),.int .i64 0]) (by simp only [results,Tryz.results65];go_simp) rfl ⟨by rw [←HE.out];simp,HB.out⟩
      ·have hb0:b≠0:=fun e=>h0 ⟨h1,e⟩
       have h2: ((b:Int) == 0) =false:=by simp;omega
       clear h0;go_wp2_with fail;exact bR (v:=.tuple #[.int .i64 ((acc:Int) + (bp:Int)),.int .i64 ((q:Int) +1),.int .i64 0]) (by simp only [results,Tryz.results65];go_simp) rfl ⟨by rw [←HE.out];simp,HB.out⟩
    ·have hbi: ¬(b:Int) <128:=by omega
     have HE:=LH ((HY.out.2.2 hb).symm.trans HG.out);obtain⟨x,hx⟩ : ∃x,b - 128=x:=⟨_,rfl⟩;rw [hx] at HE;have hx127:x≤127:=by omega
     have hxi: (b:Int) - 128= (x:Int):=by omega
     have hm:=p128_mul (a:=q) (x:=x) (by omega) hx127;have ha:=p128_sum (a:=q) (acc:=acc) (x:=x) (by omega) hx127 hacc;obtain⟨ha,ha2⟩:=ha;have HA:=LH ha2;clear HY HG hx ha2;by_cases h8:q<8
     ·have h8i: (q:Int) <8:=by omega
      have hn:=p128_next h8;obtain⟨pn,hpn⟩ : ∃z,z=128^ (q+1):=⟨_,rfl⟩;rw [←hpn] at hn HA;have HP:=LH hpn;clear hpn;generalize 128^q=p at hacc hm ha HE HA hn;obtain⟨hm,hm2⟩:=hm;generalize x*p=bp at hm hm2 ha HE HA;obtain⟨acc2,hacc2⟩ : ∃z,z=acc+bp:=⟨_,rfl⟩;rw [←hacc2] at ha HA HE;clear hacc2;go_wp2_with fail;go_roundw
      case rel=>exact⟨q+1,acc2,by go_num,by omega,by omega,by rw [ha],by rw [←HP.out];exact HA.out,fun _=>by rw [←HP.out,hn],HE.out,HB.out⟩
      case measure=>simp [intOf];omega
     ·have h8i: ¬(q:Int) <8:=by omega
      obtain⟨pn,hpn⟩ : ∃z,z=128^ (q+1):=⟨_,rfl⟩;rw [←hpn] at HA;have HP:=LH hpn;clear hpn;generalize 128^q=p at hacc hm ha HE HA;obtain⟨hm,hm2⟩:=hm;generalize x*p=bp at hm hm2 ha HE HA;obtain⟨acc2,hacc2⟩ : ∃z,z=acc+bp:=⟨_,rfl⟩;rw [←hacc2] at ha HA HE;clear hacc2;go_wp2_with fail;go_roundw
      case rel=>exact⟨q+1,acc2,by go_num,by omega,by omega,by rw [ha],by rw [←HP.out];exact HA.out,fun h=>absurd h (by omega),HE.out,HB.out⟩
      case measure=>simp [intOf];omega
   ·obtain rfl:q=s.length:=by omega
    have hne: ((s.length:Int) == (s.length:Int)) =true:=by simp
    have HE:Hid (getB s= (0,0,9)):=LH (by rw [←HG.out,List.drop_length];exact getF_end h9 acc);go_wp2_with fail;exact bR (v:=.tuple #[.int .i64 0,.int .i64 0,.int .i64 9]) (by simp only [results,Tryz.results65];go_simp) rfl ⟨by rw [HE.out];rfl,HB.out⟩
  ·obtain rfl:q=9:=by omega
   have HE:Hid (getB s= (0,0,10)):=LH (by rw [←HG.out];exact getF_nine acc _);go_wp2_with fail;exact bR (v:=.tuple #[.int .i64 0,.int .i64 0,.int .i64 10]) (by simp only [results,Tryz.results65];go_simp) rfl ⟨by rw [HE.out];rfl,HB.out⟩
theorem ref22_Rises (w:World) (A:Option Addr) (c:Nat) (L:List Int) (hS:Sl w w.heap.size encZ A L) (hi: ∀x∈L,i64 x) (hl:L.length≤100000) (hr:risesOk L=true) :
 Calls Tryz.prog 119 #[.slice A L.length c] w fun e w'=>e=.returned (.tuple #[.string ⟨(risesB L).toArray⟩,.int .i64 0])∧Below w.heap.size w w':=by
 have HO:=LH hS;have HI:=LH hi
 have HD:=LH (fun q (hq:q<L.length) (d:Int) (hd: (stepD L)[q]? =some d)=>by
  have:=List.all_eq_true.1 hr d (List.mem_of_getElem? hd)
  simpa using this)
 clear hS hi hr
 go_enter Tryz.func119,Tryz.ntmps119
 go_wp2_with fail;refine(ref22_One w L.length (by omega)).mono ?_;rintro e w1 ⟨rfl,hb1⟩;have HB1:=LH hb1;clear hb1;go_wp2_with fail
 go_loopw [4,5,6] (fun u pv j wr=>∃(q:Nat) (p:Int),j=.int .i64 q∧pv=.int .i64 p∧q≤L.length∧(0 :: L)[q]? =some p∧0≤p∧(∀d∈(stepD L).take q,d≤9223372036854775807)∧u=.string ⟨(oneB L.length ++ putB ((stepD L).take q)).toArray⟩∧Below w.heap.size w wr) (fun _ _ j _=>L.length - (intOf j).toNat)
 case atStart=>exact⟨0,0,rfl,rfl,Nat.zero_le _,rfl,Int.le_refl _,by simp,by simp [putB],HB1.out⟩
 case round=>
  obtain⟨q,p,rfl,rfl,hq,hp,hp0,hd,rfl,hB⟩:=hrel;have HB:=LH hB;have HR:=LH (HO.out.below hB);have HP:=LH hp;have HDl:=LH hd;have sz:=hB.size;clear hp hd hB;by_cases hlt:q<L.length
  ·have hqi: (q:Int) < (L.length:Int):=by omega
   have HS:=LH (stepD_at L hlt HP.out);have hpos:=HD.out q hlt _ HS.out;have hx1:=(HI.out _ (List.getElem_mem hlt)).2;have HN:Hid ((0 :: L)[q+1]? =some L[q]):=LH (by simp [List.getElem?_eq_getElem hlt]);obtain⟨b,off,rfl,hb,hc⟩:=HR.out.at_ hlt;have d0:=hc 0 (.int .i64 L[q]) rfl;simp only [Nat.mul_one,Nat.add_zero] at d0;have zb:=cell_lt d0;generalize L[q] =x at HS hpos hx1 HN d0;obtain⟨n,hn⟩ : ∃n:Nat,x - p= (n:Int):=⟨(x - p).toNat,by omega⟩;have hle:decide (x≤p) =false:=by simp;omega
   have hle2: ¬x≤p:=by omega
   have hn9:n≤9223372036854775807:=by omega
   have HT:=LH (putB_step HS.out);rw [hn] at HT;rw [Int.toNat_natCast] at HT
   have hlq: (oneB L.length ++ putB ((stepD L).take q)).length≤1000000:=by
    have h1:=putB_len HDl.out;have h2: ((stepD L).take q).length≤100000:=by rw [List.length_take];omega
    have h3:=oneB_le (n:=L.length) (by omega);rw [List.length_append];omega
   have HD2:Hid (∀d∈(stepD L).take (q+1),d≤9223372036854775807):=LH (by
    obtain⟨h1,h2⟩:=List.getElem?_eq_some_iff.1 HS.out;rw [List.take_succ_eq_append_getElem h1];intro d hd;rcases List.mem_append.1 hd with h|h
    ·exact HDl.out d h
    ·simp only [List.mem_singleton] at h;rw [h,h2];omega)
   have hx0:0≤x:=by omega
   obtain⟨U,hU⟩ : ∃U,U=oneB L.length ++ putB ((stepD L).take q):=⟨_,rfl⟩;rw [←hU] at hlq⊢;have HU:=LH hU;have hon:=oneB_le hn9;have hcat:=fun W=>run_string_add_lists (P:=Tryz.prog) W U (oneB n) (by omega) (by omega);clear hc hpos HS hU hon;go_wp2_with fail;refine(ref22_One _ n hn9).mono ?_;rintro e w2 ⟨rfl,hb2⟩;have HB2:=LH (HB.out.trans (hb2.mono sz));have d2:=(hb2.cell (p:=⟨b,off+q,none⟩) zb).trans d0;have zb2:=cell_lt d2;clear hb2 d0 zb;go_wp2_with fail;go_roundw
   case rel=>exact⟨q+1,x,by go_num,rfl,by omega,HN.out,hx0,HD2.out,by rw [HT.out,←List.append_assoc,←HU.out],HB2.out⟩
   case measure=>simp [intOf];omega
  ·obtain rfl:q=L.length:=by omega
   have hqi:decide ((L.length:Int) < (L.length:Int)) =false:=by simp
   have HG:Hid (oneB L.length ++ putB ((stepD L).take L.length) =risesB L):=LH (by unfold risesB;rw [show (stepD L).take L.length=stepD L by rw [←stepD_len L,List.take_length]]);rw [HG.out];generalize hG:risesB L=G;have HG2:=LH hG;clear hG HG;go_wp2_with fail;exact bR (v:=.tuple #[.string ⟨G.toArray⟩,.int .i64 0]) (by simp only [results,Tryz.results119];go_simp) rfl ⟨by rw [HG2.out],HB.out⟩
end Go.Proofs.YtandlhihcnadmaaGreat
