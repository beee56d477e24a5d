/-
  Texts of this proof, one behind the other: Ref06F, Ref07A, Ref07B, Ref11C, Ref11D, Press, Zone, Ref12R, Ref13C, Ref13I, Ref13J, Ref13D, Ref24R, DigOps, DigReset, OpenSide, Made13, WireRead, WireDec, Alive16, RankRisesW, Tells, Blend, JoinN, SensorRight, SensorMake, CloneD, CloneP, Clone, SensorOps.
-/
import Derived.Deep.LoopGhost
import Derived.Deep.RegionWith
import Derived.Deep.DeepCutAuto
import Derived.Laws.CopyOwn
import Derived.Test.YtlgnakobjkhmhaaGreatDoorR1
import Derived.Test.YtlgnakobjkhmhaaGreatDoorR2
import Derived.Test.YtlgnakobjkhmhaaGreatDoorR3
import Derived.Test.YtlgnakobjkhmhaaGreatDoorR4
import Derived.Test.YtlgnakobjkhmhaaGreatDoorR5
import Derived.Test.YtlgnakobjkhmhaaGreatDoorR6
set_option linter.unusedVariables false
set_option linter.unusedSimpArgs false
set_option maxRecDepth 100000
set_option maxHeartbeats 16000000
namespace Go.Proofs.YtlgnakobjkhmhaaGreatDoor
open Go.ChangeShapes Go.WideShapes Go.ChangeAt Go.RowKit
def BumpF (w2:World) (g oo n co:Nat) (L:List Nd) (y:Nd) (b o:Nat) (x1 x2:Int) (W:World) :Prop:=
 Own W w2.heap.size 172 encN (.slice (some ⟨g,oo,none⟩) n co) (L ++ [y])∧W.cell? ⟨b,o,none⟩ =some (.int .i64 x1)∧W.cell? ⟨b,o+1,none⟩ =some (.int .i64 x2)∧b<w2.heap.size∧Below w2.heap.size w2 W
def Fold6Post (l:List Nd) (w:World) (e:Ending) (w':World) :Prop:=∃v,e=.returned (.tuple #[v,.bool true])∧Own w' w.heap.size 172 encN v (addAll [] l)∧Below w.heap.size w w'
def RollPost (R:List Nd) (w:World) (e:Ending) (w':World) :Prop:=∃v,e=.returned (.tuple #[v,.bool true])∧Own w' w.heap.size 172 encN v R∧Below w.heap.size w w'
def StorePost (l:Nat) (R:List Nd) (n:Int) (w:World) (e:Ending) (w':World) :Prop:=∃A c,e=.returned (.tuple #[.agg #[.int .i64 l,.slice A R.length c],.int .i64 n])∧Own w' w.heap.size 172 encN (.slice A R.length c) R∧Below w.heap.size w w'
def butR (id:Int) (L:List Nd) :List Nd:=L.filter fun x=>x.1 != id
structure SlP (w:World) (A:Option Addr) (cap:Nat) (L:List Int) :Prop where
 s:Sl w w.heap.size encZ A L
 c1:L.length≤cap
 c2:cap≤maxLen
 o: (A=none∧cap=0)∨∃b off,A=some ⟨b,off,none⟩
def ParPost (r:List Nd) (w:World) (e:Ending) (w':World) :Prop:=
 ∃(A':Option Addr) (cap':Nat) (L:List Int),e=.returned (.slice A' L.length cap')∧SlP w' A' cap' L∧(∀z∈L,z≤9223372036854775807)∧(∀x∈r,1<x.1→x.1 / 2∈L)∧L.Pairwise leA∧L.length≤r.length∧Below w.heap.size w w'
def First11 (l:Nat) (most:Int) (r:List Nd) (w:World) (e:Ending) (w':World) :Prop:=
 ∃(id:Int) (ok:Bool),e=.returned (.tuple #[.int .i64 id,.bool ok])∧(ok=true→FirstIs l most r id)∧(ok=false→∀p,readyR l r p most=false)∧Below w.heap.size w w'
structure ReadyF (l:Nat) (r:List Nd) (p:Int) :Prop where
 p1:1≤p
 p2:p<281474976710656
 node:isNode l p=true
 c1:1≤pairR r p
 s:sumR (delR (delR r (2*p)) (2*p+1)) +pairR r p=sumR r
theorem deep_le {l:Nat} {r:List Nd} (h:Fits l r) (hl:l≤48) :deepR r≤48*r.length:=by
 have h1: ∀x∈r,x.1.toNat.log2≤48:=fun x hx=>by
  have h2:=h.lt x hx;have h3:=(h.roll.2 x hx).1
  have h4:x.1.toNat<2^ (l+1):=by
   have: ((2^ (l+1) :Nat) :Int) =2*2^l:=by push_cast;omega
   omega
  have:=(Nat.log2_lt (by omega)).2 h4;omega
 clear h;unfold deepR
 induction r with
 |nil=>simp
 |cons x r ih=>
  have:=ih fun y hy=>h1 y (by simp [hy]);have:=h1 x (by simp);simp only [List.map_cons,List.sum_cons,List.length_cons];omega
structure RunS (w:World) (ga gm g K l nb:Nat) (F:Nat→Prop) (s:List Nd) (L:List Int) (c:Nat) (Fp FA:Nat→Prop) (W:World) :Prop where
 a:AgAt W ga gm L FA
 p:PoolAt W g K l s Fp
 apart: ∀b,Fp b→¬FA b
 n:W.heap[nb]? =some (.cells #[.int .i64 c] 3 (0,0))
 np: ¬Fp nb
 na: ¬FA nb
 fa: ∀b,FA b→w.heap.size≤b
 gp:Grow w F Fp
 t:Turn (fun b=>F b∨b=nb) w W
section
variable {w:World} {ga gm g K l nb:Nat} {F:Nat→Prop} {s s':List Nd} {L L':List Int} {c:Nat} {Fp FA FA':Nat→Prop} {W W':World}
theorem RunS.below (h:RunS w ga gm g K l nb F s L c Fp FA W) (hb:Below W.heap.size W W') :RunS w ga gm g K l nb F s L c Fp FA W':=
 ⟨h.a.below hb,h.p.below hb,h.apart,bB h.n hb,h.np,h.na,h.fa,h.gp,h.t.more hb⟩
theorem RunS.ag (h:RunS w ga gm g K l nb F s L c Fp FA W) (ha:AgAt W' ga gm L' FA') (ht:Turn FA W W') (hg:Grow W FA FA') :RunS w ga gm g K l nb F s L' c Fp FA' W':=by
 have lp:=h.p.lt;refine⟨ha,h.p.keep fun b hb=>ht.block b (lp b hb) (h.apart b hb),fun b hb hf=> ?_,ht.keep h.n h.na,h.np,fun hf=> ?_,fun b hb=> ?_,h.gp,?_⟩
 ·rcases hg b hf with hf|hf
  ·exact h.apart b hb hf
  ·have:=lp b hb;omega
 ·rcases hg _ hf with hf|hf
  ·exact h.na hf
  ·have:=lB h.n;omega
 ·rcases hg b hb with hf|hf
  ·exact h.fa b hf
  ·exact Nat.le_trans h.t.size hf
 ·exact h.t.trans ht fun b hb=>.inr (h.fa b hb)
theorem RunS.pool (h:RunS w ga gm g K l nb F s L c Fp FA W) (hp:PoolTo W g K l s' Fp W') : ∃Fp',RunS w ga gm g K l nb F s' L c Fp' FA W':=by
 obtain⟨Fp',h1,h2,h3⟩:=hp;have la:=h.a.lt;refine⟨Fp',h.a.keep fun b hb=>h2.block b (la b hb) fun hf=>h.apart b hf hb,h1,fun b hb hf=> ?_,h2.keep h.n h.np,fun hf=> ?_,h.na,h.fa,h.gp.trans h3 h.t.size,?_⟩
 ·rcases h3 b hb with hb|hb
  ·exact h.apart b hb hf
  ·have:=la b hf;omega
 ·rcases h3 _ hf with hf|hf
  ·exact h.np hf
  ·have:=lB h.n;omega
 ·exact h.t.trans h2 fun b hb=>(h.gp b hb).imp .inl id
theorem RunS.count (h:RunS w ga gm g K l nb F s L c Fp FA W) :RunS w ga gm g K l nb F s L (c+1) Fp FA (W.setCell ⟨nb,0,none⟩ (.int .i64 (c+1:Nat))):=by
 have k: ∀b,b≠nb→(W.setCell ⟨nb,0,none⟩ (.int .i64 (c+1:Nat))).heap[b]? =W.heap[b]? :=fun b hb=>Below.heap_setCell _ _ _ _ (by simpa using hb);refine⟨h.a.keep fun b hb=>k b (by rintro rfl;exact h.na hb),h.p.keep fun b hb=>k b (by rintro rfl;exact h.np hb),h.apart,?_,h.np,h.na,h.fa,h.gp,h.t.setCell (.inl (.inr rfl)) _⟩;simp [World.setCell,Array.getElem?_modify,h.n]
end
theorem press_Run1 (W:World) (nb c:Nat) (id:Int) (h:W.heap[nb]? =some (.cells #[.int .i64 c] 3 (0,0))) (hc:c≤4611686018427387904) :
 Calls Tryz.prog 208 #[.int .i64 id,.pointer (some ⟨nb,0,none⟩)] W fun e w'=>e=.returned (.tuple #[])∧w'=W.setCell ⟨nb,0,none⟩ (.int .i64 (c+1:Nat)):=by
 have c0:=bC h;have f0:=bF h;have z0:=lB h;clear h
 go_enter Tryz.func208,Tryz.ntmps208
 go_wp2_with fail
 go_end0
 exact⟨rfl,by congr 1⟩
theorem enters_Run1: ∀args W,(callFunc 208 args).run Tryz.prog W=.ok (.enter 208 args) W:=enters_of Tryz.func208 (by kernel_rfl) rfl
def RunPost (g K l:Nat) (r:List Nd) (most:Int) (nb:Nat) (F:Nat→Prop) (w:World) (e:Ending) (w':World) :Prop:=
 ∃(ps:List Int) (s:List Nd) (Fp:Nat→Prop),e=.returned (.tuple #[])∧RunTo l most r ps s∧ps.length≤48*r.length∧PoolAt w' g K l s Fp∧Grow w F Fp∧¬Fp nb∧Turn (fun b=>F b∨b=nb) w w'∧w'.heap[nb]? =some (.cells #[.int .i64 ps.length] 3 (0,0))
theorem press_run (w:World) (g K l:Nat) (r:List Nd) (F:Nat→Prop) (hP:PoolAt w g K l r F) (hr:r.length≤67108864) (k:Int) (h1:1≤k) (h2:k≤1048576) (nb:Nat) (hn:w.heap[nb]? =some (.cells #[.int .i64 0] 3 (0,0))) (hnF: ¬F nb) :
 Calls Tryz.prog 207 #[.pointer (some ⟨g,0,none⟩),.int .i64 k,.func (.func 208) #[] #[.pointer (some ⟨nb,0,none⟩)]] w (RunPost g K l r (sumR r / k) nb F w):=by
 have eg:=enters_Run1;have hs0:=sumR_nonneg hP.fits.roll;have hs1:=hP.fits.sum;have hll:=hP.l_le;have hdl:=deep_le hP.fits hll.2;have HRl:=LH hP.fits.roll;have HP:=LH hP;have HT:=LH (fun W h=>pool_Total W g K l r F h);have HC:=LH (fun W=>fold_Cap W (sumR r) k hs0 (by omega) h1 (by omega));have HPa:=LH (fun W h=>fold_Parents W g K l r F h hr);generalize sumR r / k=most at HC⊢;generalize sumR r=n at HC HT hs0 hs1;have HN:=LH hn;have HNF:=LH hnF;clear hP hs0 hs1 hn hnF
 go_enter Tryz.func207,Tryz.ntmps207
 go_wp2_with fail;refine(HT.out _ HP.out).mono ?_;rintro e w1 ⟨rfl,hb1⟩;have B1:=LH hb1;clear hb1;go_wp2_with fail;refine(HC.out _).mono ?_;rintro e w2 ⟨rfl,hb2⟩;have B2:=LH (Below.then_ B1.out hb2);clear hb2;go_wp2_with fail;refine(HPa.out _ (HP.out.below B2.out)).mono ?_;rintro e w3 ⟨v,O,rfl,ho,hd,hol,hb3⟩;obtain⟨A,cap,rfl,_⟩:=ho.form;have S3:=LH ho.sl
 have hO49: ∀x∈O,x≤9223372036854775807:=fun x hx=>by
  have h3:=(hd.mem x).2 (.inl hx);obtain⟨y,hy,rfl⟩:=List.mem_map.1 ((putAll_mem _ _).1 h3).2;have h4:=isNode_lt (HP.out.fits.nodes hll y hy);have h5:=pow_48 hll.2;omega
 have hO49': ∀x∈O,x≤562949953421312:=fun x hx=>by
  have h3:=(hd.mem x).2 (.inl hx);obtain⟨y,hy,rfl⟩:=List.mem_map.1 ((putAll_mem _ _).1 h3).2;have h4:=isNode_lt (HP.out.fits.nodes hll y hy);have h5:=pow_48 hll.2;omega
 have hwt: ∀x∈r,1≤x.1 / 2→x.1 / 2∈putAll O:=fun x hx h3=>by
  refine(putAll_mem _ _).2 ⟨h3,?_⟩;have:x.1 / 2∈putAll (halves r):=(putAll_mem _ _).2 ⟨h3,List.mem_map.2 ⟨x,hx,rfl⟩⟩;rcases (hd.mem _).1 this with h|h
  ·exact h
  ·simp at h
 have hlenO:=putAll_len O;have HW:=LH (Waits.start (l:=l) (most:=most) hwt HRl.out);have HWt:=LH (putAll_wait O);have HV:Hid (∀x∈putAll O,x≤562949953421312):=LH fun x hx=>hO49' x ((putAll_mem _ _).1 hx).2;have HNw:=LH (fun W h=>fold_New W A cap O h hO49 (by omega));have B3:=LH (Below.then_ B2.out hb3);clear ho hd hb3 hO49 hO49' hwt;generalize putAll O=L0 at HW HWt HV HNw hlenO;go_wp2_with fail;refine(HNw.out _ S3.out).mono ?_;rintro e w4 ⟨ga,gm,FA,rfl,hA4,hF4,hb4⟩;have B4:=LH (Below.then_ B3.out hb4)
 have R4:Hid (RunS w ga gm g K l nb F r L0 0 F FA w4):=LH
  ⟨hA4,HP.out.below B4.out,fun b hb hf=>by have:=HP.out.lt b hb;have:=hF4 b hf;have:=B3.out.size;omega,bB HN.out B4.out,HNF.out,fun hf=>by have:=lB HN.out;have:=hF4 nb hf;have:=B3.out.size;omega,
   fun b hb=>Nat.le_trans B3.out.size (hF4 b hb),Grow.refl,.of_below B4.out⟩
 clear hA4 hF4 hb4 S3 HNw;have hn0:4*deepR r+L0.length≤20000000000:=by omega
 have hfR:=HP.out.fits;go_wp2_with fail
 go_loopg [] 20000000000 (fun kk wr=>∃(s:List Nd) (L:List Int) (ps:List Int) (Fp FA:Nat→Prop),RunS w ga gm g K l nb F s L ps.length Fp FA wr∧WaitL L∧Waits l most s L∧(∀x∈L,x≤562949953421312)∧Folded l most r s∧(∀qs t,RunTo l most s qs t→RunTo l most r (ps ++ qs) t)∧ps.length+deepR s≤deepR r∧4*deepR s+L.length≤kk∧kk≤20000000000)
 case atStart=>exact⟨r,L0, [],F,FA,R4.out,HWt.out,HW.out,HV.out,.refl _,fun qs t h=>h,by simp,hn0,Nat.le_refl _⟩
 case round=>
  obtain⟨s,L,ps,Fp,FA,hR,hw,hW,hV,hFo,hTo,hdp,hk1,hk2⟩:=hrel;have R:=LH hR;have HWt:=LH hw;have HW:=LH hW;have HV:=LH hV;have HF:=LH hFo;have HTo:=LH hTo;have hfs:=hFo.fits hfR;have hls:=hFo.len hfR;obtain⟨Dm,hAS,_⟩:=hR.a;have HLn:=LH (ag_Len _ ga gm _ L Dm FA hAS);have HD:=LH hdp;clear hR hw hW hV hFo hTo hAS hdp;go_wp2_with fail;refine HLn.out.mono ?_;rintro e w5 ⟨rfl,hb5⟩;have R5:=LH (R.out.below hb5);clear hb5 R HLn
  cases L with
  |nil=>
   simp only [List.length_nil];have hE:=LH (HTo.out [] s (Waits.done HW.out));rw [List.append_nil] at hE;go_wp2_with fail
   go_end0
   have hd1:=HD.out;exact⟨ps,s,Fp,rfl,hE.out,by omega,R5.out.p,R5.out.gp,R5.out.np,R5.out.t,R5.out.n⟩
  |cons x L=>
   have hxL:x∉L:=(List.nodup_cons.1 HWt.out.once).1;have hpv: ∀y∈x :: L,1≤y∧y≤9223372036854775807:=fun y hy=>⟨HWt.out.pos y hy,by have:=HV.out y hy;omega⟩;have hx1:1≤x:=HWt.out.pos x (by simp);have hx2:x≤562949953421312:=HV.out x (by simp);have hlL:L.length+1+4*deepR s≤gk:=by simp only [List.length_cons] at hk1;omega
   have HPop:=LH (fun W h=>ag_Pop W ga gm x L FA h hxL hpv (by omega));have hl1: (x :: L).length=L.length+1:=by simp
   have hpl: (popH (x :: L)).length=L.length:=(popH_perm x L).length_eq;have HPW:=LH HWt.out.pop;have HPV:Hid (∀y∈popH (x :: L),1≤y∧y≤562949953421312):=LH fun y hy=>⟨HWt.out.pos y (List.mem_cons_of_mem _ ((popH_perm x L).mem_iff.1 hy)),HV.out y (List.mem_cons_of_mem _ ((popH_perm x L).mem_iff.1 hy))⟩;rw [hl1];clear hl1 hk1 hpv hxL;go_wp2_with fail;refine(HPop.out _ R5.out.a).mono ?_;rintro e w6 ⟨rfl,hA6,hT6⟩;have R6:=LH (R5.out.ag hA6 hT6 Grow.refl);clear hA6 hT6 R5;go_wp2_with fail;refine(fold_Ready _ g K l s Fp R6.out.p x most).mono ?_;rintro e w7 ⟨rfl,hb7⟩;have R7:=LH (R6.out.below hb7);clear hb7 R6
   cases hy:readyR l s x most
   ·have HSk:=LH (HW.out.skip hy)
    clear hy;generalize popH (x :: L) =M at HSk HPW HPV R7 hpl;go_wp2_with fail
    go_roundg (gk - 1)
    case measure=>omega
    case rel=>exact⟨s,M,ps,Fp,FA,R7.out,HPW.out,HSk.out,fun y hy=>(HPV.out y hy).2,HF.out,HTo.out,HD.out,by omega,by omega⟩
   ·have HFr:=LH (HW.out.first HWt.out hy)
    have HWf:=LH (HW.out.fold hfs.roll hy);have hdf:=deep_fold hfs.roll hy;have hkid:=kids_iff.1 (ready_iff.1 hy).1;have hx3:x<281474976710656:=by have:=pow_48 hll.2;omega
    have HDo:=LH (fun W h=>fold_Do W g K l s Fp h x most hy (by omega));have HFo:Hid (Folded l most r (foldR s x)):=LH (.step x HF.out hy)
    have HTo2:Hid (∀qs t,RunTo l most (foldR s x) qs t→RunTo l most r ((ps ++ [x]) ++ qs) t):=LH fun qs t h=>by
     have:=HTo.out _ _ (.step HFr.out h)
     simpa using this
    have hpl1: (ps ++ [x]).length=ps.length+1:=by simp
    have hd1:=HD.out;clear hkid hy HW HWt HF HTo HV;generalize foldR s x=s2 at HWf HDo HFo HTo2 hdf;generalize popH (x :: L) =M at HWf HPW HPV R7 hpl;go_wp2_with fail;refine(HDo.out _ R7.out.p).mono ?_;rintro e w8 ⟨⟨n8,rfl⟩,hp8⟩;obtain⟨Fp8,R8'⟩:=R7.out.pool hp8;have R8:=LH R8';clear R7 hp8 R8' HDo;go_wp2_with fail;refine(press_Run1 _ nb ps.length x R8.out.n (by omega)).mono ?_;rintro e w9 ⟨rfl,rfl⟩;have R9:=LH R8.out.count;generalize w8.setCell ⟨nb,0,none⟩ (.int .i64 (ps.length+1:Nat)) =w9 at R9⊢;clear R8;have HP1:=LH (fun W h=>ag_Put W ga gm M FA h (2*x) (by omega) (fun y hy=>⟨(HPV.out y hy).1,by have:=(HPV.out y hy).2;omega⟩) (by omega))
    have V1:Hid (∀y∈putW M (2*x),1≤y∧y≤562949953421312):=LH fun y hy=>by
     rcases (putW_mem _ _ _).1 hy with h| ⟨_,rfl⟩
     ·exact HPV.out y h
     ·exact⟨by omega,by omega⟩
    have W1:=LH (HPW.out.put (2*x));have L1:=putW_len M (2*x);go_wp2_with fail;refine(HP1.out _ R9.out.a).mono ?_;rintro e wa ⟨t1,F1,rfl,hA,hT,hG⟩;have RA:=LH (R9.out.ag hA hT hG);clear hA hT hG R9 HP1;generalize putW M (2*x) =M1 at RA V1 W1 L1 HWf;have HP2:=LH (fun W h=>ag_Put W ga gm M1 F1 h (2*x+1) (by omega) (fun y hy=>⟨(V1.out y hy).1,by have:=(V1.out y hy).2;omega⟩) (by omega))
    have V2:Hid (∀y∈putW M1 (2*x+1),1≤y∧y≤562949953421312):=LH fun y hy=>by
     rcases (putW_mem _ _ _).1 hy with h| ⟨_,rfl⟩
     ·exact V1.out y h
     ·exact⟨by omega,by omega⟩
    have W2:=LH (W1.out.put (2*x+1));have L2:=putW_len M1 (2*x+1);go_wp2_with fail;refine(HP2.out _ RA.out.a).mono ?_;rintro e wb ⟨t2,F2,rfl,hA,hT,hG⟩;have RB:=LH (RA.out.ag hA hT hG);clear hA hT hG RA HP2;generalize putW M1 (2*x+1) =M2 at RB V2 W2 L2 HWf;have HP3:=LH (fun W h=>ag_Put W ga gm M2 F2 h (x / 2) (by omega) (fun y hy=>⟨(V2.out y hy).1,by have:=(V2.out y hy).2;omega⟩) (by omega))
    have V3:Hid (∀y∈putW M2 (x / 2),1≤y∧y≤562949953421312):=LH fun y hy=>by
     rcases (putW_mem _ _ _).1 hy with h| ⟨_,rfl⟩
     ·exact V2.out y h
     ·exact⟨by omega,by omega⟩
    have W3:=LH (W2.out.put (x / 2));have L3:=putW_len M2 (x / 2);go_wp2_with fail;refine(HP3.out _ RB.out.a).mono ?_;rintro e wc ⟨t3,F3,rfl,hA,hT,hG⟩;have RC:=LH (RB.out.ag hA hT hG);clear hA hT hG RB HP3;generalize putW M2 (x / 2) =M3 at RC V3 W3 L3 HWf;go_wp2_with fail
    go_roundg (gk - 1)
    case measure=>omega
    case rel=>exact⟨s2,M3,ps ++ [x],Fp8,F3,by rw [hpl1];exact RC.out,W3.out,HWf.out,fun y hy=>(V3.out y hy).2,HFo.out,HTo2.out,by rw [hpl1];omega,by omega,by omega⟩
def PressPost (g K l:Nat) (r:List Nd) (most:Int) (F:Nat→Prop) (w:World) (e:Ending) (w':World) :Prop:=
 ∃(ps:List Int) (s:List Nd),e=.returned (.tuple #[.int .i64 ps.length,.int .i64 0])∧RunTo l most r ps s∧ps.length≤48*r.length∧PoolTo w g K l s F w'
theorem press_Run (w:World) (g K l:Nat) (r:List Nd) (F:Nat→Prop) (hP:PoolAt w g K l r F) (hr:r.length≤67108864) (k:Int) (h1:1≤k) (h2:k≤1048576) :
 Calls Tryz.prog 156 #[.pointer (some ⟨g,0,none⟩),.int .i64 k] w (PressPost g K l r (sumR r / k) F w):=by
 have HP:=LH hP;have HR:=LH (fun W h nb hn hf=>press_run W g K l r F h hr k h1 h2 nb hn hf);generalize sumR r / k=most at HR⊢;clear hP
 go_enter Tryz.func156,Tryz.ntmps156
 go_wp2_with fail;refine(press_wrong _ g k h1 h2).mono ?_;rintro e w1 ⟨rfl,hb1⟩;have B1:=LH (hb1.trans (((Below.refl w1.heap.size w1).alloc (Nat.le_refl _) (.cells #[.int .i64 0] 3)).mono hb1.size));have X1:=LH (heap_alloc_new w1 (.cells #[.int .i64 0] 3));have s1:=hb1.size;have P1:=LH (HP.out.below B1.out);clear hb1;have NF:Hid (¬F w1.heap.size):=LH fun hf=>by have:=HP.out.lt _ hf;omega
 go_wp2_with fail;refine(HR.out _ P1.out _ X1.out NF.out).mono ?_;rintro e w2 ⟨ps,s,Fp,rfl,hR,hpl,hP2,hG,_,hT,hn⟩
 have HE:Hid (RunTo l most r ps s∧ps.length≤48*r.length∧PoolTo w g K l s F w2):=by
  refine LH ⟨hR,hpl,Fp,hP2,?_,fun b hb=>(hG b hb).imp id fun h=>Nat.le_trans B1.out.size h⟩;refine⟨hT.os.trans B1.out.os,hT.tape.trans B1.out.tape,hT.output.trans B1.out.output,Nat.le_trans B1.out.size hT.size,fun b hb hf=> ?_⟩;rw [hT.block b (Nat.lt_of_lt_of_le hb B1.out.size) (by rintro(h|h);exact hf h;omega)];exact B1.out.block b hb
 have c2:=bC hn;have z2:=lB hn;clear hR hP2 hG hT hn hpl X1 P1 B1 HR;go_wp2_with fail
 go_ret2
 exact⟨ps,s,rfl,HE.out⟩
section
class Zone where
 n:Nat
 z:Nat→Prop
 up: ∀b,n≤b→z b
instance (priority:=low) zoneAll:Zone:=⟨0,fun _=>True,fun _ _=>trivial⟩
variable [Zone]
def SlZ {α:Type} {size:Nat} (w:World) (e:TypeId) (E:Enc α size) (A:Option Addr) (l:List α) :Prop:=
 Zone.n≤w.heap.size∧(l= []∨∃b off,A=some ⟨b,off,none⟩∧(TypeAt w b e∧Zone.z b)∧∀i x,l[i]? =some x→∀j u,(E.enc x)[j]? =some u→w.cell? ⟨b,off+i*size+j,none⟩ =some u)
section
variable {α:Type} {size:Nat} {w w':World} {e t:TypeId} {E:Enc α size} {A:Option Addr} {l:List α}
end
end
def Run12Post [Zone] (l:Nat) (most:Int) (r:List Nd) (w:World) (e:Ending) (w':World) :Prop:=
 ∃(ps:List Int) (s:List Nd) (A:Option Addr) (c:Nat) (Ap:Option Addr) (cp:Nat),e=.returned (.tuple #[.agg #[.int .i64 l,.slice A s.length c],.slice Ap ps.length cp])∧RunTo l most r ps s∧SlZ w' 172 encN A s∧Below w.heap.size w w'
def Comp13Post [Zone] (l:Nat) (k:Int) (r:List Nd) (w:World) (e:Ending) (w':World) :Prop:=
 ∃(ps:List Int) (s:List Nd) (A:Option Addr) (c:Nat),e=.returned (.tuple #[.agg #[.int .i64 k,.int .i64 l,.slice A s.length c],.int .i64 ps.length])∧RunTo l (sumR r / k) r ps s∧SlZ w' 172 encN A s∧Below w.heap.size w w'
def Ins13Post [Zone] (l:Nat) (k:Int) (r:List Nd) (x c:Int) (w:World) (e:Ending) (w':World) :Prop:=
 ∃(s:List Nd) (A:Option Addr) (cp:Nat),e=.returned (.tuple #[.agg #[.int .i64 k,.int .i64 l,.slice A s.length cp],.int .i64 (insErr l r x c)])∧InsTo l k r x c s∧SlZ w' 172 encN A s∧Below w.heap.size w w'

def Do13Post [Zone] (l:Nat) (k:Int) (r:List Nd) (o:Op3) (w:World) (e:Ending) (w':World) :Prop:=
 ∃(s:List Nd) (A:Option Addr) (cp:Nat) (n:Int),e=.returned (.tuple #[.agg #[.int .i64 k,.int .i64 l,.slice A s.length cp],.int .i64 n])∧DoTo l k r o s n∧SlZ w' 172 encN A s∧Below w.heap.size w w'
def RdPost [Zone] (s:List UInt8) (w:World) (e:Ending) (w':World) :Prop:=
 ∃A c,e=.returned (.tuple #[.agg #[.int .i64 (readW s).1.2.1,.int .i64 (readW s).1.1,.slice A (readW s).1.2.2.2.length c],.int .i64 (readW s).2])∧SlZ w' 172 encN A (readW s).1.2.2.2∧Below w.heap.size w w'
def DigTo (w:World) (g K l:Nat) (k:Int) (s:List Nd) (F:Nat→Prop) (w':World) :Prop:=∃F',DigAt w' g K l k s F'∧Turn F w w'∧Grow w F F'
theorem DigTo.below {w:World} {g K l:Nat} {k:Int} {s:List Nd} {F:Nat→Prop} {w':World} (h:DigAt w g K l k s F) (hb:Below w.heap.size w w') :DigTo w g K l k s F w':=⟨F,h.below hb,.of_below hb,Grow.refl⟩
theorem PoolAt.not_dig {w:World} {p K l g:Nat} {r:List Nd} {F:Nat→Prop} (h:PoolAt w p K l r F) {cs:Array Value} (hh:w.heap[g]? =some (.cells cs 118 (0,0))) : ¬F g:=fun hf=>by
 obtain⟨t,ht,ha⟩:=h.typed g hf;have:=typeAt_eq ha (.of hh);subst this;rcases ht with h|h|h|h|h <;> revert h <;> decide
theorem DigAt.parts {w:World} {g K l:Nat} {k:Int} {r:List Nd} {F:Nat→Prop} (h:DigAt w g K l k r F) : ∃p F0,F=footP g F0∧w.heap[g]? =some (.cells #[.int .i64 k,.pointer (some ⟨p,0,none⟩)] 118 (0,0))∧PoolAt w p K l r F0∧¬F0 g∧1≤k∧k≤1048576:=by
 obtain⟨h1,h2,p,F0,hF,hh,hP⟩:=h;exact⟨p,F0,hF,hh,hP,hP.not_dig hh,h1,h2⟩
theorem digest_Len (w:World) (g K l:Nat) (k:Int) (r:List Nd) (F:Nat→Prop) (h:DigAt w g K l k r F) :Calls Tryz.prog 163 #[.pointer (some ⟨g,0,none⟩)] w fun e w'=>e=.returned (.int .i64 r.length)∧Below w.heap.size w w':=by
 obtain⟨h1,h2,p,F0,rfl,hh,hP⟩:=h;have c:=bC hh;have z:=lB hh;have HP:=LH hP;clear hh hP
 go_enter Tryz.func163,Tryz.ntmps163
 go_wp2_with fail;refine(pool_Len _ p K l r F0 HP.out).mono ?_;rintro e w1 ⟨rfl,hb1⟩;have B1:Below w.heap.size w w1:=Below.then_ bE hb1;have s1:=B1.size;go_wp2_with fail;go_ret;exact⟨rfl,bE⟩
theorem made_room (w:World) (k:Int) (h1:1≤k) (h2:k≤1048576) :Calls Tryz.prog 164 #[.agg #[.int .i64 k]] w fun e w'=>e=.returned (.int .i64 (8*k))∧Below w.heap.size w w':=by
 go_enter Tryz.func164,Tryz.ntmps164
 go_wp2_with fail;go_ret;exact⟨rfl,bE⟩
def CompPost (g K l:Nat) (k:Int) (r:List Nd) (F:Nat→Prop) (w:World) (e:Ending) (w':World) :Prop:=
 ∃(ps:List Int) (s:List Nd),e=.returned (.int .i64 ps.length)∧RunTo l (sumR r / k) r ps s∧DigTo w g K l k s F w'
theorem digest_Compress (w:World) (g K l:Nat) (k:Int) (r:List Nd) (F:Nat→Prop) (h:DigAt w g K l k r F) (hn:r.length≤67108864) :
 Calls Tryz.prog 108 #[.pointer (some ⟨g,0,none⟩)] w (CompPost g K l k r F w):=by
 obtain⟨h1,h2,p,F0,rfl,hh,hP⟩:=h;have hgF:=hP.not_dig hh;have c:=bC hh;have z:=lB hh;have HR:=LH (fun W h=>press_Run W p K l r F0 h hn k h1 h2);have HP:=LH hP;have HH:=LH hh;unfold CompPost;generalize sumR r / k=most at HR⊢;clear hh hP
 go_enter Tryz.func108,Tryz.ntmps108
 go_upto_region 3 with fail
 go_region_with (first
  | (go_at_call 156;refine(HR.out w.drew (HP.out.keep fun _ _=>rfl)).mono ?_;rintro e w1 ⟨ps,s,rfl,hR,_,F1,hP1,hT,hG⟩;have HE:Hid (RunTo l most r ps s∧DigTo w g K l k s (footP g F0) w1):=LH ⟨hR,footP g F1,⟨h1,h2,p,F1,rfl,hT.keep (w:=w.drew) HH.out hgF,hP1⟩,((Turn.refl _ w).drew.trans hT Grow.refl).mono (fun b _ hb=>.inr hb),hG.foot (w:=w.drew)⟩;clear hR hP1 hT hG))
 all_goals
  clear c z;go_wp2_with fail;go_ret;exact⟨ps,s,rfl,HE.out⟩
theorem digest_Insert (w:World) (g K l:Nat) (k:Int) (r:List Nd) (F:Nat→Prop) (h:DigAt w g K l k r F) (hn:r.length≤67108864) (x c:Int) :
 Calls Tryz.prog 114 #[.pointer (some ⟨g,0,none⟩),.int .i64 x,.int .i64 c] w fun e w'=>∃r',e=.returned (.int .i64 (insErr l r x c))∧InsTo l k r x c r'∧DigTo w g K l k r' F w':=by
 have hD:=LH h;have hll:=h.l_le;have hCo:=LH (fun W h=>digest_Compress W g K l k r F h hn);have hLn:=LH (fun W h=>digest_Len W g K l k r F h);obtain⟨h1,h2,p,F0,hFe,hh,hP⟩:=h;have s0:=sumR_nonneg hP.fits.roll;have s1:=hP.fits.sum;have HL:=LH (fun W h=>pool_L W p K l r F0 h);have HT:=LH (fun W h=>pool_Total W p K l r F0 h);have HLf:=LH (fun W=>twig_Leaf W l x hll.1 hll.2);have HP:=LH hP;have c0:=bC hh;have z0:=lB hh
 cases hv:isVal l x
 ·have e1:insErr l r x c=3:=by unfold insErr;rw [if_pos hv]
  have HE:Hid (InsTo l k r x c r):=LH (.inl ⟨by rw [e1];omega,rfl⟩);rw [e1];rw [leafV_no hv] at HLf;clear hh hP hv e1
  go_enter Tryz.func114,Tryz.ntmps114
  go_wp2_with fail;refine(HL.out _ HP.out).mono ?_;rintro e w1 ⟨rfl,hb1⟩;have B1:Below w.heap.size w w1:=Below.then_ bE hb1;have s1:=B1.size;have z1_0:g<w1.heap.size:=by have:=hb1.size;(try simp at this);omega
  have y1_0:g≤w1.heap.size:=Nat.le_of_lt z1_0;have c1_0:=czB hb1 (g);have f1_0:=fzB hb1 (g);go_wp2_with fail;refine(HLf.out _).mono ?_;rintro e w2 ⟨rfl,hb2⟩;have B2:Below w.heap.size w w2:=Below.then_ bE hb2;have s2:=B2.size;have z2_0:g<w2.heap.size:=by have:=hb2.size;(try simp at this);omega
  have y2_0:g≤w2.heap.size:=Nat.le_of_lt z2_0;have c2_0:=czB hb2 (g);have f2_0:=fzB hb2 (g);go_wp2_with fail;go_ret;exact⟨r,rfl,HE.out,.below hD.out B2⟩
 ·rw [leafV_yes hv] at HLf
  by_cases hc:c<1
  ·have e1:insErr l r x c=4:=by unfold insErr;rw [if_neg (by simp [hv]),if_pos hc]
   have HE:Hid (InsTo l k r x c r):=LH (.inl ⟨by rw [e1];omega,rfl⟩);rw [e1];clear hh hP hv e1
   go_enter Tryz.func114,Tryz.ntmps114
   go_wp2_with fail;refine(HL.out _ HP.out).mono ?_;rintro e w1 ⟨rfl,hb1⟩;have B1:Below w.heap.size w w1:=Below.then_ bE hb1;have s1:=B1.size;have z1_0:g<w1.heap.size:=by have:=hb1.size;(try simp at this);omega
   have y1_0:g≤w1.heap.size:=Nat.le_of_lt z1_0;have c1_0:=czB hb1 (g);have f1_0:=fzB hb1 (g);go_wp2_with fail;refine(HLf.out _).mono ?_;rintro e w2 ⟨rfl,hb2⟩;have B2:Below w.heap.size w w2:=Below.then_ bE hb2;have s2:=B2.size;have z2_0:g<w2.heap.size:=by have:=hb2.size;(try simp at this);omega
   have y2_0:g≤w2.heap.size:=Nat.le_of_lt z2_0;have c2_0:=czB hb2 (g);have f2_0:=fzB hb2 (g);go_wp2_with fail;go_ret;exact⟨r,rfl,HE.out,.below hD.out B2⟩
  ·have hc':decide (c<1) =false:=by simpa using hc
   by_cases hs:72057594037927935<sumR r+c
   ·have e1:insErr l r x c=5:=by unfold insErr;rw [if_neg (by simp [hv]),if_neg hc,if_pos hs]
    have HE:Hid (InsTo l k r x c r):=LH (.inl ⟨by rw [e1];omega,rfl⟩);rw [e1];generalize sumR r=n at hs s0 s1 HT;have hs2:72057594037927935 - n<c:=by omega
    clear hh hP hv e1 hs hc
    go_enter Tryz.func114,Tryz.ntmps114
    go_wp2_with fail;refine(HL.out _ HP.out).mono ?_;rintro e w1 ⟨rfl,hb1⟩;have B1:Below w.heap.size w w1:=Below.then_ bE hb1;have s1:=B1.size;have z1_0:g<w1.heap.size:=by have:=hb1.size;(try simp at this);omega
    have y1_0:g≤w1.heap.size:=Nat.le_of_lt z1_0;have c1_0:=czB hb1 (g);have f1_0:=fzB hb1 (g);go_wp2_with fail;refine(HLf.out _).mono ?_;rintro e w2 ⟨rfl,hb2⟩;have B2:Below w.heap.size w w2:=Below.then_ bE hb2;have s2:=B2.size;have z2_0:g<w2.heap.size:=by have:=hb2.size;(try simp at this);omega
    have y2_0:g≤w2.heap.size:=Nat.le_of_lt z2_0;have c2_0:=czB hb2 (g);have f2_0:=fzB hb2 (g);go_wp2_with fail;have P2:=LH (HP.out.below B2);refine(HT.out _ P2.out).mono ?_;rintro e w3 ⟨rfl,hb3⟩;have B3:Below w.heap.size w w3:=Below.then_ bE hb3;have s3:=B3.size;go_wp2_with fail;go_ret;exact⟨r,rfl,HE.out,.below hD.out B3⟩
   ·have e1:insErr l r x c=0:=by unfold insErr;rw [if_neg (by simp [hv]),if_neg hc,if_neg hs]
    have hE: ∀s,PreTo l k r (2^l+x) s→InsTo l k r x c (addR s (2^l+x) c):=fun s hp=>.inr ⟨e1,s,hp,rfl⟩;have HE:=LH hE;rw [e1];obtain⟨v1,v2,v3⟩:=ins_ok e1;obtain⟨y1,y2⟩:=isVal_iff.1 v1;have hpw:=pow_pos' l;have hp48:=pow_48 hll.2;obtain⟨id,hid⟩ : ∃id:Nat,(2:Int) ^l+x=id:=⟨(2^l+x).toNat,by omega⟩;have hid1:1≤id:=by omega
    have hid2:id<2*2^l:=by
     have: (id:Int) <2*2^l:=by omega
     exact_mod_cast this
    rw [hid] at HLf HE;have HG:=LH (fun W h=>pool_Get W p K l r F0 h id);have HPre:=LH (fun s (h:PreTo l k r id s)=>h.same hP.fits);have HAdd:=LH (fun W q s F' (hs:PreTo l k r id s) h=>pool_Add W q K l s F' h id hid1 hid2 c (by omega) (by rw [(hs.same hP.fits).2.1];omega) (by have:=(hs.same hP.fits).2.2;omega));have HC1:Hid (∀ps s,getR r id=0→8*k≤r.length→RunTo l (sumR r / k) r ps s→PreTo l k r id s):=LH fun ps s a b h=>.inl ⟨a,b,ps,h⟩;have HC2:Hid (¬(getR r id=0∧8*k≤r.length)→PreTo l k r id r):=LH fun h=>.inr ⟨h,rfl⟩;have hs2:decide (72057594037927935 - sumR r<c) =false:=by simp;omega
    have hlr: (r.length:Int)≤67108864:=by omega
    have HFe:=LH hFe;have HH:=LH hh;generalize sumR r=n at hs2 s0 s1 HT;obtain⟨gt,hgt⟩ : ∃gt,gt=getR r id:=⟨_,rfl⟩;rw [←hgt] at HG HC1 HC2;clear hh hP hv e1 hs hc v1 v2 v3 y1 y2 hpw hp48 hid hid1 hid2 hE hgt HPre hFe
    go_enter Tryz.func114,Tryz.ntmps114
    go_wp2_with fail;refine(HL.out _ HP.out).mono ?_;rintro e w1 ⟨rfl,hb1⟩;have B1:Below w.heap.size w w1:=Below.then_ bE hb1;have s1:=B1.size;have z1_0:g<w1.heap.size:=by have:=hb1.size;(try simp at this);omega
    have y1_0:g≤w1.heap.size:=Nat.le_of_lt z1_0;have c1_0:=czB hb1 (g);have f1_0:=fzB hb1 (g);go_wp2_with fail;refine(HLf.out _).mono ?_;rintro e w2 ⟨rfl,hb2⟩;have B2:Below w.heap.size w w2:=Below.then_ bE hb2;have s2:=B2.size;have z2_0:g<w2.heap.size:=by have:=hb2.size;(try simp at this);omega
    have y2_0:g≤w2.heap.size:=Nat.le_of_lt z2_0;have c2_0:=czB hb2 (g);have f2_0:=fzB hb2 (g);go_wp2_with fail;have P2:=LH (HP.out.below B2);refine(HT.out _ P2.out).mono ?_;rintro e w3 ⟨rfl,hb3⟩;have B3:Below w.heap.size w w3:=Below.then_ bE hb3;have s3:=B3.size;have z3_0:g<w3.heap.size:=by have:=hb3.size;(try simp at this);omega
    have y3_0:g≤w3.heap.size:=Nat.le_of_lt z3_0;have c3_0:=czB hb3 (g);have f3_0:=fzB hb3 (g);have P3:=LH (HP.out.below B3);have D3:=LH (hD.out.below B3);have BB3:=LH B3;clear hb1 hb2 hb3 B1 B2 B3 P2;by_cases h0:gt=0
    ·subst h0
     by_cases h8:8*k≤r.length
     ·have HC3:=LH (fun ps s h=>HC1.out ps s rfl h8 h)
      clear HC1 HC2;go_wp2_with fail;refine rX (by kernel_rfl) (by kernel_rfl) ?_
      repeat (go_big_quiet_step (first| (go_at_call 162;exact quiet_ext (HG.out _ (P3.out.below (ext_below _ _)))) | (go_at_call 163;exact quiet_ext (hLn.out _ (D3.out.below (ext_below _ _)))) | (go_at_call 164;exact quiet_ext (made_room _ k h1 h2))))
      refine wpQuiet_nil ?_;intro w4 hb4;replace hb4:=bX hb4;have D4:=LH (D3.out.below hb4);have B4:=LH (BB3.out.trans (hb4.mono BB3.out.size));clear hb4 P3 D3 BB3;go_wp2_with fail;refine(hCo.out w4 D4.out).mono ?_;rintro e w5 ⟨ps,s,rfl,hR,F5,hD5,hT5,hG5⟩;have HPs:=LH (HC3.out ps s hR);replace hT5:Turn F w w5:=(Turn.of_below B4.out).trans hT5 Grow.refl;replace hG5:Grow w F F5:=fun b hb=>(hG5 b hb).imp (fun h=>h) fun h=>Nat.le_trans B4.out.size h;clear hR D4 B4;obtain⟨p5,F05,rfl,hh5,hP5,hgF5,_,_⟩:=hD5.parts;have P5:=LH hP5;have H5:=LH hh5;have T5:=LH hT5;have G5:=LH hG5;have c5:=bC hh5;have z5:=lB hh5;clear hD5 hP5 hh5 hT5 hG5 c0 z0;go_wp2_with fail;refine(HAdd.out w5 p5 s F05 HPs.out P5.out).mono ?_;rintro e w6 ⟨F6,rfl,hP6,hT6,hG6⟩;have HF:Hid (DigTo w g K l k (addR s id c) F w6):=LH ⟨footP g F6,⟨h1,h2,p5,F6,rfl,hT6.keep H5.out hgF5,hP6⟩,T5.out.trans (hT6.mono fun b _ hb=>.inr hb) G5.out,G5.out.trans hG6.foot T5.out.size⟩;clear hP6 hT6 hG6 c5 z5;go_wp2_with fail;go_ret;exact⟨_,rfl,HE.out s HPs.out,HF.out⟩
     ·have HPs0:=LH (HC2.out fun h=>h8 h.2)
      have h8':decide (8*k≤(r.length:Int)) =false:=by simpa using h8
      obtain⟨s,hs⟩ : ∃s,s=r:=⟨_,rfl⟩;have HPs:Hid (PreTo l k r id s):=LH (by rw [hs];exact HPs0.out);clear HPs0;clear HC1 HC2 h8;go_wp2_with fail;refine rX (by kernel_rfl) (by kernel_rfl) ?_
      repeat (go_big_quiet_step (first| (go_at_call 162;exact quiet_ext (HG.out _ (P3.out.below (ext_below _ _)))) | (go_at_call 163;exact quiet_ext (hLn.out _ (D3.out.below (ext_below _ _)))) | (go_at_call 164;exact quiet_ext (made_room _ k h1 h2))))
      refine wpQuiet_nil ?_;intro w5 hb4;replace hb4:=bX hb4;have hT5:Turn F w w5:=Turn.of_below (BB3.out.trans (hb4.mono BB3.out.size));obtain⟨F5,hF5⟩ : ∃F5,F5=F:=⟨_,rfl⟩;have hG5:Grow w F F5:=by rw [hF5];exact Grow.refl
      have hD5:=D3.out.below hb4;rw [←hF5] at hD5;clear hF5;clear hb4 P3 D3 BB3;rw [←hs] at hD5;obtain⟨p5,F05,rfl,hh5,hP5,hgF5,_,_⟩:=hD5.parts;have P5:=LH hP5;have H5:=LH hh5;have T5:=LH hT5;have G5:=LH hG5;have c5:=bC hh5;have z5:=lB hh5;clear hD5 hP5 hh5 hT5 hG5 c0 z0;go_wp2_with fail;refine(HAdd.out w5 p5 s F05 HPs.out P5.out).mono ?_;rintro e w6 ⟨F6,rfl,hP6,hT6,hG6⟩;have HF:Hid (DigTo w g K l k (addR s id c) F w6):=LH ⟨footP g F6,⟨h1,h2,p5,F6,rfl,hT6.keep H5.out hgF5,hP6⟩,T5.out.trans (hT6.mono fun b _ hb=>.inr hb) G5.out,G5.out.trans hG6.foot T5.out.size⟩;clear hP6 hT6 hG6 c5 z5;go_wp2_with fail;go_ret;exact⟨_,rfl,HE.out s HPs.out,HF.out⟩
    ·have HPs0:=LH (HC2.out fun h=>h0 h.1)
     have h0': (gt == 0) =false:=by simpa using h0
     obtain⟨s,hs⟩ : ∃s,s=r:=⟨_,rfl⟩;have HPs:Hid (PreTo l k r id s):=LH (by rw [hs];exact HPs0.out);clear HPs0;clear HC1 HC2 h0;go_wp2_with fail;refine rX (by kernel_rfl) (by kernel_rfl) ?_
     repeat (go_big_quiet_step (first| (go_at_call 162;exact quiet_ext (HG.out _ (P3.out.below (ext_below _ _)))) | (go_at_call 163;exact quiet_ext (hLn.out _ (D3.out.below (ext_below _ _)))) | (go_at_call 164;exact quiet_ext (made_room _ k h1 h2))))
     refine wpQuiet_nil ?_;intro w5 hb4;replace hb4:=bX hb4;have hT5:Turn F w w5:=Turn.of_below (BB3.out.trans (hb4.mono BB3.out.size));obtain⟨F5,hF5⟩ : ∃F5,F5=F:=⟨_,rfl⟩;have hG5:Grow w F F5:=by rw [hF5];exact Grow.refl
     have hD5:=D3.out.below hb4;rw [←hF5] at hD5;clear hF5;clear hb4 P3 D3 BB3;rw [←hs] at hD5;obtain⟨p5,F05,rfl,hh5,hP5,hgF5,_,_⟩:=hD5.parts;have P5:=LH hP5;have H5:=LH hh5;have T5:=LH hT5;have G5:=LH hG5;have c5:=bC hh5;have z5:=lB hh5;clear hD5 hP5 hh5 hT5 hG5 c0 z0;go_wp2_with fail;refine(HAdd.out w5 p5 s F05 HPs.out P5.out).mono ?_;rintro e w6 ⟨F6,rfl,hP6,hT6,hG6⟩;have HF:Hid (DigTo w g K l k (addR s id c) F w6):=LH ⟨footP g F6,⟨h1,h2,p5,F6,rfl,hT6.keep H5.out hgF5,hP6⟩,T5.out.trans (hT6.mono fun b _ hb=>.inr hb) G5.out,G5.out.trans hG6.foot T5.out.size⟩;clear hP6 hT6 hG6 c5 z5;go_wp2_with fail;go_ret;exact⟨_,rfl,HE.out s HPs.out,HF.out⟩
theorem dig_pool {w:World} {g K l:Nat} {k:Int} {r:List Nd} {F:Nat→Prop} (h:DigAt w g K l k r F) :isPool K l=true:=by
 obtain⟨_,_,p,F0,rfl,_,a,b,_,q,F1,_,hk⟩:=h;simp only [isPool,decide_eq_true_eq];rcases hk with ⟨hk,h16,_⟩ | ⟨hk,_⟩ <;> omega

def encO:Enc Op3 3:=⟨fun x=> [.int .i64 x.1,.int .i64 x.2.1,.int .i64 x.2.2],fun _=>rfl,by intro x u hu;simp at hu;rcases hu with rfl|rfl|rfl <;> rfl⟩
def intsO (l:List Op3) :Prop:=∀x∈l,i64 x.1∧i64 x.2.1∧i64 x.2.2
section
variable {H:Type} {enc:TypeId×Value→H} {w:World} {base:Nat} {spare:Nat→Bool} {held:Bool} {fuel:Nat} {cs:List Value} {x:DataW H×List MemPlace}
end
def callsV (l k K:Int) (A:Option Addr) (n cap:Nat) :Value:=.agg #[.int .i64 l,.int .i64 k,.int .i64 K,.slice A n cap]
theorem DigTo.from {w W w':World} {g K l:Nat} {k:Int} {s:List Nd} {F:Nat→Prop} (hB:Below w.heap.size w W) (h:DigTo W g K l k s F w') :DigTo w g K l k s F w':=by
 obtain⟨F',h1,h2,h3⟩:=h;exact⟨F',h1,(Turn.of_below hB).trans h2 Grow.refl,fun b hb=>(h3 b hb).imp id fun h=>Nat.le_trans hB.size h⟩
def DoPost (g K l:Nat) (k:Int) (r:List Nd) (o:Op3) (F:Nat→Prop) (w:World) (e:Ending) (w':World) :Prop:=
 ∃(r':List Nd) (n:Int),e=.returned (.int .i64 n)∧DoTo l k r o r' n∧DigTo w g K l k r' F w'
theorem DigAt.typed {w:World} {g K l:Nat} {k:Int} {r:List Nd} {F:Nat→Prop} (h:DigAt w g K l k r F) : ∀b,F b→∃t,(t=118∨PoolTypes t)∧TypeAt w b t:=by
 obtain⟨p,F0,rfl,hh,hP,_,_,_⟩:=h.parts;rintro b (rfl|hb)
 ·exact⟨_,.inl rfl,.of hh⟩
 ·obtain⟨t,ht,h⟩:=hP.typed b hb
  exact⟨t,.inr ht,h⟩
theorem DigAt.not_type {w:World} {g K l:Nat} {k:Int} {r:List Nd} {F:Nat→Prop} (h:DigAt w g K l k r F) {b t:Nat} (hb:TypeAt w b t) (ht:t≠118∧t≠167∧t≠219∧t≠3∧t≠221∧t≠172) : ¬F b:=fun hf=>by
 obtain⟨t',h1,h2⟩:=h.typed b hf;have:=typeAt_eq hb h2;subst this;obtain⟨a1,a2,a3,a4,a5,a6⟩:=ht;rcases h1 with h1|h1|h1|h1|h1|h1
 ·exact a1 h1
 ·exact a2 h1
 ·exact a3 h1
 ·exact a4 h1
 ·exact a5 h1
 ·exact a6 h1
structure MadeS (w:World) (pb g K l:Nat) (k:Int) (r m:List Nd) (F:Nat→Prop) (A:Option Addr) (cap:Nat) (W:World) :Prop where
 d:DigAt W g K l k r F
 fw: ∀b,F b→w.heap.size≤b
 b:W.heap[pb]? =some (.cells #[.int .i64 l,.slice A m.length cap] 59 (0,0))
 pw:w.heap.size+1<pb
 z:W.heap[w.heap.size+1]? =some (.cells #[.int .i64 0,.slice none 0 0] 59 (0,0))
 s:SlT W 102 encN A m
 blw:Below w.heap.size w W
section
variable {w:World} {pb g K l:Nat} {k:Int} {r r' m m':List Nd} {F F':Nat→Prop} {A A':Option Addr} {cap cap':Nat} {W W':World}
end
def CallsPost (K l:Nat) (k:Int) (n:Nat) (w:World) (e:Ending) (w':World) :Prop:=
 ∃(g:Nat) (F:Nat→Prop) (r m:List Nd) (A:Option Addr) (cap:Nat),e=.returned (.tuple #[.pointer (some ⟨g,0,none⟩),bagV l A m.length cap])∧DigAt w' g K l k r F∧(∀b,F b→w.heap.size≤b)∧SlT w' 102 encN A m∧Held l k r m∧r.length≤n∧m.length≤n∧(r.length:Int)≤8*k∧Below w.heap.size w w'
def ReadPost (s:List UInt8) (w:World) (e:Ending) (w':World) :Prop:=
 ∃A c,e=.returned (.tuple #[.agg #[.int .i64 (readW s).1.1,.int .i64 (readW s).1.2.1,.int .i64 0,.int .i64 (readW s).1.2.2.1,.slice A (readW s).1.2.2.2.length c],.int .i64 (readW s).2])∧SlT w' 172 encN A (readW s).1.2.2.2∧Below w.heap.size w w'
structure PrS (w:World) (pr pp:Nat) (s:List UInt8) (e:Int) (l k n:Int) (L:List Nd) (A:Option Addr) (c:Nat) (W:World) :Prop where
 z:W.heap[w.heap.size]? =some (.cells #[.int .i64 0,.int .i64 0,.int .i64 0,.int .i64 0,.slice none 0 0] 341 (0,0))
 r:RdrAt W pr s e
 p:PtAt W pp l k 0 n A L.length c
 o:Own W w.heap.size 172 encN (.slice A L.length c) L
 b:Below w.heap.size w W
 h1:w.heap.size<pr
 h2:pr<pp
section
variable {w W W':World} {pr pp:Nat} {s s2:List UInt8} {e e2 l k n l2 k2 n2:Int} {L L2:List Nd} {A A2:Option Addr} {c c2:Nat}
end
def PeekPost (s:List UInt8) (w:World) (e:Ending) (w':World) :Prop:=
 e=.returned (.tuple #[.agg #[.int .i64 (readW s).1.1,.int .i64 (readW s).1.2.1,.int .i64 0],.int .i64 (readW s).1.2.2.1,.int .i64 (readW s).1.2.2.2.length,.int .i64 (readW s).2])∧Below w.heap.size w w'
def DecPost (K:Nat) (s:List UInt8) (w:World) (e:Ending) (w':World) :Prop:=
 ((readW s).2≠0∧e=.returned (.tuple #[.pointer none,.int .i64 (readW s).2])∧Below w.heap.size w w')∨((readW s).2=0∧DigPost K (readW s).1.1 (readW s).1.2.1 (readW s).1.2.2.2 w e w')



def blendErr (la lb:Nat) (ra rb:List Nd) :Int:=if la≠lb then 6 else if 72057594037927935<sumR ra+sumR rb then 5 else 0
theorem blend_wrong (w:World) (ga Ka la:Nat) (ka:Int) (ra:List Nd) (Fa:Nat→Prop) (gb Kb lb:Nat) (kb:Int) (rb:List Nd) (Fb:Nat→Prop) (ha:DigAt w ga Ka la ka ra Fa) (hb:DigAt w gb Kb lb kb rb Fb) :
 Calls Tryz.prog 121 #[.pointer (some ⟨ga,0,none⟩),.pointer (some ⟨gb,0,none⟩)] w fun e w'=>e=.returned (.int .i64 (blendErr la lb ra rb))∧Below w.heap.size w w':=by
 have a0:=sumR_nonneg ha.fits.roll;have a1:=ha.fits.sum;have b0:=sumR_nonneg hb.fits.roll;have b1:=hb.fits.sum;have HCa:=LH (fun W h=>digest_Conf W ga Ka la ka ra Fa h);have HCb:=LH (fun W h=>digest_Conf W gb Kb lb kb rb Fb h);have HNa:=LH (fun W h=>digest_N W ga Ka la ka ra Fa h);have HNb:=LH (fun W h=>digest_N W gb Kb lb kb rb Fb h);have HA:=LH ha;have HB:=LH hb;unfold blendErr;clear ha hb;generalize sumR ra=na at HNa a0 a1⊢;generalize sumR rb=nb at HNb b0 b1⊢;by_cases hl:la=lb
 ·subst hl
  rw [if_neg (by simp)];have hll: ((la:Int) != (la:Int)) =false:=by simp
  by_cases hs:72057594037927935<na+nb
  ·rw [if_pos hs]
   have hs':72057594037927935 - nb<na:=by omega
   clear hs
   go_enter Tryz.func121,Tryz.ntmps121
   go_wp2_with fail;refine(HCa.out w HA.out).mono ?_;rintro e w1 ⟨rfl,hb1⟩;have B1:=LH hb1;clear hb1;go_wp2_with fail;refine(HCb.out w1 (HB.out.below B1.out)).mono ?_;rintro e w2 ⟨rfl,hb2⟩;have B2:=LH (Below.then_ B1.out hb2);clear hb2;go_wp2_with fail;refine(HNa.out w2 (HA.out.below B2.out)).mono ?_;rintro e w3 ⟨rfl,hb3⟩;have B3:=LH (Below.then_ B2.out hb3);clear hb3;go_wp2_with fail;refine(HNb.out w3 (HB.out.below B3.out)).mono ?_;rintro e w4 ⟨rfl,hb4⟩;have B4:=LH (Below.then_ B3.out hb4);clear hb4;go_wp2_with fail;go_ret;exact⟨rfl,B4.out⟩
  ·rw [if_neg hs]
   have hs':decide (72057594037927935 - nb<na) =false:=by simp;omega
   clear hs
   go_enter Tryz.func121,Tryz.ntmps121
   go_wp2_with fail;refine(HCa.out w HA.out).mono ?_;rintro e w1 ⟨rfl,hb1⟩;have B1:=LH hb1;clear hb1;go_wp2_with fail;refine(HCb.out w1 (HB.out.below B1.out)).mono ?_;rintro e w2 ⟨rfl,hb2⟩;have B2:=LH (Below.then_ B1.out hb2);clear hb2;go_wp2_with fail;refine(HNa.out w2 (HA.out.below B2.out)).mono ?_;rintro e w3 ⟨rfl,hb3⟩;have B3:=LH (Below.then_ B2.out hb3);clear hb3;go_wp2_with fail;refine(HNb.out w3 (HB.out.below B3.out)).mono ?_;rintro e w4 ⟨rfl,hb4⟩;have B4:=LH (Below.then_ B3.out hb4);clear hb4;go_wp2_with fail;go_ret;exact⟨rfl,B4.out⟩
 ·rw [if_pos hl]
  have hll: ((la:Int) != (lb:Int)) =true:=by simp;omega
  clear hl
  go_enter Tryz.func121,Tryz.ntmps121
  go_wp2_with fail;refine(HCa.out w HA.out).mono ?_;rintro e w1 ⟨rfl,hb1⟩;have B1:=LH hb1;clear hb1;go_wp2_with fail;refine(HCb.out w1 (HB.out.below B1.out)).mono ?_;rintro e w2 ⟨rfl,hb2⟩;have B2:=LH (Below.then_ B1.out hb2);clear hb2;go_wp2_with fail;go_ret;exact⟨rfl,B2.out⟩
def LowPost (l:Nat) (r:List Nd) (k2:Int) (w:World) (e:Ending) (w':World) :Prop:=
 ∃(v:Value) (ps:List Int) (s:List Nd),e=.returned v∧Own w' w.heap.size 172 encN v s∧RunTo l (sumR r / k2) r ps s∧Below w.heap.size w w'
theorem blend_lowered (w:World) (g K l:Nat) (k:Int) (r:List Nd) (F:Nat→Prop) (h:DigAt w g K l k r F) (hI:ints r) (hlen:r.length≤67108863) (k2:Int) (h1:1≤k2) (h2:k2≤1048576) (hln: ∀ps s,RunTo l (sumR r / k2) r ps s→s.length≤67108864) :
 Calls Tryz.prog 117 #[.pointer (some ⟨g,0,none⟩),.int .i64 k2] w (LowPost l r k2 w):=by
 have hRt:=fits_right h.fits h.l_le;have hKl:=dig_pool h;have HC:=LH (fun W h=>digest_Conf W g K l k r F h);have HNo:=LH (fun W h=>digest_Nodes W g K l k r F h (by omega));have HLd:=LH (fun W A cap hS=>pool_Load W K l A cap r hKl hRt hS hI (by omega));have HRu:=LH (fun W gp Fp h=>press_Run W gp K l r Fp h (by omega) k2 h1 h2);have HLn:=LH hln;have HD:=LH h;unfold LowPost;clear h hI hRt hKl h1 h2 hln
 go_enter Tryz.func117,Tryz.ntmps117
 go_wp2_with fail;refine(HC.out w HD.out).mono ?_;rintro e w1 ⟨rfl,hb1⟩;have al:=hb1.trans (((Below.refl w1.heap.size w1).alloc (Nat.le_refl _) (.cells #[.int .i64 l,.int .i64 k,.int .i64 K] 28)).mono hb1.size);have XC:=LH (heap_alloc_new w1 (.cells #[.int .i64 l,.int .i64 k,.int .i64 K] 28));have D3:=LH (HD.out.below al);have B3:=LH al;clear hb1 al HC HD;go_upto_region 2 with fail;obtain⟨pc,hpc⟩ : ∃q,q=w1.heap.size:=⟨_,rfl⟩;rw [←hpc] at XC⊢;generalize w1.alloc (.cells #[.int .i64 l,.int .i64 k,.int .i64 K] 28) =w3 at XC D3 B3⊢;clear hpc;refine wp_region_noPanic ?_;refine wp_region_N (fun w'=>w'.heap[pc]? =some (.cells #[.int .i64 l,.int .i64 k,.int .i64 K] 28 (0,0))) [] (by kernel_rfl) (XC.out) (fun hHeld=> ?_);refine nP 0 (Value.pointer (some ⟨pc,2,none⟩)) (h:= ?_)
 (try simp only [zA,zB,zC,Act.put,zD,zE,zF])
 refine nT 1 (Value.int .i64 K) (y:=Or.inl ⟨by rfl,fun W hW=>by have q1:=bC hW;have q2:=lB hW;go_simp⟩) (s:=XC.out) (h:= ?_)
 (try simp only [zA,zB,zC,Act.put,zD,zE,zF])
 refine nP 2 (Value.pointer (some ⟨pc,0,none⟩)) (h:= ?_)
 (try simp only [zA,zB,zC,Act.put,zD,zE,zF])
 refine nT 3 (Value.int .i64 l) (y:=Or.inl ⟨by rfl,fun W hW=>by have q1:=bC hW;have q2:=lB hW;go_simp⟩) (s:=XC.out) (h:= ?_)
 (try simp only [zA,zB,zC,Act.put,zD,zE,zF])
 refine nP 4 (Value.pointer (some ⟨g,0,none⟩)) (h:= ?_)
 (try simp only [zA,zB,zC,Act.put,zD,zE,zF])
 refine nO (i:=5) (by kernel_rfl) rfl (fun K hK=> ?_);go_simp;refine(HNo.out w3.drew D3.out.drew).mono ?_;rintro e w4 ⟨vN,rfl,hoN,hb4⟩;obtain⟨AN,cN,rfl,_⟩:=hoN.form;have ON:=LH hoN;have B4:=LH (Below.then_ B3.out.drew hb4);have XC4:=LH (bB (w:=w3.drew) XC.out hb4);clear hb4 hoN;refine hK.out _ _ (fun _ _=>XC4.out) ?_;clear hK K
 (try simp only [zA,zB,zC,Act.put,zD,zE,zF])
 refine nO (i:=6) (by kernel_rfl) rfl (fun K hK=> ?_);go_simp;refine(HLd.out w4 AN cN ON.out.sl).mono ?_;rintro e w5 ⟨gp,Fp,rfl,hP,hF,hb5⟩;have P5:=LH (And.intro hP fun b hb=>Nat.le_trans B4.out.size (hF b hb));have B5:=LH (Below.then_ B4.out hb5);have XC5:=LH (bB XC4.out hb5);clear hb5 hP hF;refine hK.out _ _ (fun _ _=>XC5.out) ?_;clear hK K
 (try simp only [zA,zB,zC,Act.put,zD,zE,zF])
 refine nP 7 (Value.tuple #[.pointer (some ⟨gp,0,none⟩),.int .i64 0]) (h:= ?_)
 (try simp only [zA,zB,zC,Act.put,zD,zE,zF])
 refine nP 8 (Value.pointer (some ⟨gp,0,none⟩)) (h:= ?_)
 (try simp only [zA,zB,zC,Act.put,zD,zE,zF])
 refine nP 9 (Value.int .i64 0) (h:= ?_)
 (try simp only [zA,zB,zC,Act.put,zD,zE,zF])
 refine nP 10 (Value.pointer (some ⟨gp,0,none⟩)) (h:= ?_)
 (try simp only [zA,zB,zC,Act.put,zD,zE,zF])
 refine nO (i:=11) (by kernel_rfl) rfl (fun K hK=> ?_);go_simp;refine hK.out _ _ (fun _ _=>XC5.out) ?_;clear hK K
 (try simp only [zA,zB,zC,Act.put,zD,zE,zF])
 refine nD (by kernel_rfl) ?_ _;refine NoPanic.normal ?_;clear XC XC4 D3 B3 ON HNo HLd;go_upto_region 5 with fail;go_wp2_with fail;refine(HRu.out w5 gp Fp P5.out.1).mono ?_;rintro e w6 ⟨ps,s,rfl,hR,_,Fq,hP6,hT,hG⟩;have B6:=LH (B5.out.trans (hT.below P5.out.2 B5.out.size));have HR:=LH hR;have P6:=LH hP6;have hsl:=HLn.out ps s hR;clear hR hP6 hT hG HRu P5 XC5;go_wp2_with fail;refine(pool_Snap w6 gp K l s Fq P6.out hsl).mono ?_;rintro e w7 ⟨v,rfl,ho,hb7⟩;have O7:=LH (ho.base_le (b:=w.heap.size) B6.out.size);have B7:=LH (Below.then_ B6.out hb7);clear ho hb7;go_wp2_with fail;go_ret;exact⟨v,ps,s,rfl,O7.out,HR.out,B7.out⟩
def JoinPost (a b:List Nd) (w:World) (e:Ending) (w':World) :Prop:=∃v,e=.returned (.tuple #[v,.bool true])∧Own w' w.heap.size 172 encN v (joinR a b)∧Below w.heap.size w w'
theorem roll_Join (w:World) (A B:Option Addr) (ca cb:Nat) (a b:List Nd) (hA:Sl w w.heap.size encN A a) (hB:Sl w w.heap.size encN B b) (ha:Roll a) (hb:Roll b) (ia:ints a) (ib:ints b) (hs:sumR a+sumR b≤72057594037927935) (hn:a.length+b.length≤67108863) :
 Calls Tryz.prog 122 #[.slice A a.length ca,.slice B b.length cb] w (JoinPost a b w):=by
 have HF:=LH (fun W A' c' h h1 h2=>roll_Fold W A' c' (a ++ b) h (fun x hx=>by
  rcases List.mem_append.1 hx with hx|hx
  ·exact ia x hx
  ·exact ib x hx) (fun x hx=>by
  rcases List.mem_append.1 hx with hx|hx
  ·exact ha.2 x hx
  ·exact hb.2 x hx) (by rw [sumR_append];exact hs) h1 h2 (by rw [List.length_append];exact hn))
 have al:Below w.heap.size w (w.alloc (.cells #[.slice A a.length ca,.slice B b.length cb] 169)):=bE
 have HS:Hid (Sl (w.alloc (.cells #[.slice A a.length ca,.slice B b.length cb] 169)) (w.alloc (.cells #[.slice A a.length ca,.slice B b.length cb] 169)).heap.size encSl (some ⟨w.heap.size,0,none⟩) [(A,ca,a),(B,cb,b)]):=LH
  ((sl_lit w encSl [(A,ca,a),(B,cb,b)] 169 _ rfl).keep (by simp) fun p hp=>rfl)
 have HE:Hid (∀s∈ [(A,ca,a),(B,cb,b)],Sl (w.alloc (.cells #[.slice A a.length ca,.slice B b.length cb] 169)) (w.alloc (.cells #[.slice A a.length ca,.slice B b.length cb] 169)).heap.size encN s.1 s.2.2):=LH fun s hs=>by
  rcases List.mem_cons.1 hs with rfl|hs
  ·exact hA.keep al.size fun p hp=>al.cell hp
  ·rw [List.mem_singleton.1 hs]
   exact hB.keep al.size fun p hp=>al.cell hp
 have BW:=LH al;have hall:allN [(A,ca,a),(B,cb,b)] =a ++ b:=by simp [allN]
 have HC:=LH (fun W hS hE=>concat_N W (some ⟨w.heap.size,0,none⟩) 2 [(A,ca,a),(B,cb,b)] hS hE (by rw [hall,List.length_append];omega) (by simp));rw [hall] at HC;unfold JoinPost joinR;generalize a ++ b=L at HC HF⊢;clear hA hB ha hb ia ib hs hn al hall
 go_enter Tryz.func122,Tryz.ntmps122
 go_wp2_with fail;refine(HC.out _ HS.out HE.out).mono ?_;rintro e w1 ⟨v1,rfl,ho1,hb1⟩;obtain⟨A1,c1,rfl,f1,f2,_⟩:=ho1.form;have S1:=LH ho1.sl;have F1:=LH f1;have F2:=LH f2;have B1:=LH (Below.then_ BW.out hb1);clear ho1 hb1 HC HS HE BW f1 f2;go_wp2_with fail;refine(HF.out w1 A1 c1 S1.out F1.out F2.out).mono ?_;rintro e w2 ⟨v2,rfl,ho2,hb2⟩;have O2:=LH (ho2.base_le B1.out.size);have B2:=LH (Below.then_ B1.out hb2);clear ho2 hb2;go_wp2_with fail
 go_ret2
 exact⟨v2,rfl,O2.out,B2.out⟩
def MergePost (l K:Nat) (k2:Int) (ra rb:List Nd) (w:World) (e:Ending) (w':World) :Prop:=
 ∃g F rc,e=.returned (.tuple #[.pointer (some ⟨g,0,none⟩),.int .i64 0])∧DigAt w' g K l k2 rc F∧(∀b,F b→w.heap.size≤b)∧Joined l k2 ra rb rc∧Below w.heap.size w w'
theorem blend_Merge_no (w:World) (ga Ka la:Nat) (ka:Int) (ra:List Nd) (Fa:Nat→Prop) (gb Kb lb:Nat) (kb:Int) (rb:List Nd) (Fb:Nat→Prop) (ha:DigAt w ga Ka la ka ra Fa) (hb:DigAt w gb Kb lb kb rb Fb) (he:blendErr la lb ra rb≠0) :
 Calls Tryz.prog 75 #[.pointer (some ⟨ga,0,none⟩),.pointer (some ⟨gb,0,none⟩)] w fun e w'=>e=.returned (.tuple #[.pointer none,.int .i64 (blendErr la lb ra rb)])∧Below w.heap.size w w':=by
 have HC:=LH (blend_wrong w ga Ka la ka ra Fa gb Kb lb kb rb Fb ha hb);have hne: (blendErr la lb ra rb != 0) =true:=by simpa using he
 clear ha hb he;generalize blendErr la lb ra rb=n at HC hne⊢
 go_enter Tryz.func75,Tryz.ntmps75
 go_wp2_with fail;refine HC.out.mono ?_;rintro e w1 ⟨rfl,hb1⟩;go_wp2_with fail
 go_ret2
 exact⟨rfl,hb1⟩
theorem dig_is {w:World} {g K l:Nat} {k:Int} {r:List Nd} {F:Nat→Prop} (h:DigAt w g K l k r F) {k2:Int} (h1:1≤k2) (h2:k2≤k) :isDig l k2 K=true:=by
 obtain⟨q1,q2,p,F0,_,_,hP⟩:=h;obtain⟨p1,p2,_,p',F',_,hk⟩:=hP;simp only [isDig,isPool,Bool.and_eq_true,decide_eq_true_eq];rcases hk with ⟨rfl,h16,_⟩ | ⟨rfl,_⟩
 ·omega
 ·omega
structure MergeS (w:World) (ga Ka l:Nat) (ka:Int) (ra:List Nd) (Fa:Nat→Prop) (gb Kb:Nat) (kb:Int) (rb:List Nd) (Fb:Nat→Prop) (pc:Nat) (k:Int) (W:World) :Prop where
 a:DigAt W ga Ka l ka ra Fa
 b:DigAt W gb Kb l kb rb Fb
 c:W.heap[pc]? =some (.cells #[.int .i64 l,.int .i64 k,.int .i64 Ka] 28 (0,0))
 blw:Below w.heap.size w W
 lt:w.heap.size≤pc
 na: ¬Fa pc
 nb: ¬Fb pc
section
variable {w:World} {ga Ka l:Nat} {ka:Int} {ra:List Nd} {Fa:Nat→Prop} {gb Kb:Nat} {kb:Int} {rb:List Nd} {Fb:Nat→Prop} {pc:Nat} {k k2:Int} {W W':World}
theorem MergeS.below (h:MergeS w ga Ka l ka ra Fa gb Kb kb rb Fb pc k W) (hb:Below W.heap.size W W') :MergeS w ga Ka l ka ra Fa gb Kb kb rb Fb pc k W':=
 ⟨h.a.below hb,h.b.below hb,bB h.c hb,h.blw.trans (hb.mono h.blw.size),h.lt,h.na,h.nb⟩
theorem MergeS.drew (h:MergeS w ga Ka l ka ra Fa gb Kb kb rb Fb pc k W) :MergeS w ga Ka l ka ra Fa gb Kb kb rb Fb pc k W.drew:=h.below (Below.drew (Below.refl _ _))
theorem MergeS.set (h:MergeS w ga Ka l ka ra Fa gb Kb kb rb Fb pc k W) :MergeS w ga Ka l ka ra Fa gb Kb kb rb Fb pc k2 (W.setCell ⟨pc,1,none⟩ (.int .i64 k2)):=
 ⟨h.a.keep fun b hb=>Below.heap_setCell _ _ _ _ (fun e=>h.na (by have e':b=pc:=e;rw [←e'];exact hb)),h.b.keep fun b hb=>Below.heap_setCell _ _ _ _ (fun e=>h.nb (by have e':b=pc:=e;rw [←e'];exact hb)),zH (i:=1) h.c _,h.blw.setCell (p:=⟨pc,1,none⟩) h.lt _,h.lt,h.na,h.nb⟩
end
theorem blend_Merge (w:World) (ga Ka l:Nat) (ka:Int) (ra:List Nd) (Fa:Nat→Prop) (gb Kb:Nat) (kb:Int) (rb:List Nd) (Fb:Nat→Prop) (ha:DigAt w ga Ka l ka ra Fa) (hb:DigAt w gb Kb l kb rb Fb) (la:lightOf l ra ka=true) (lb:lightOf l rb kb=true) (he:blendErr l l ra rb=0) (na:ra.length≤33554430) (nb:rb.length≤33554430) :
 Calls Tryz.prog 75 #[.pointer (some ⟨ga,0,none⟩),.pointer (some ⟨gb,0,none⟩)] w (MergePost l Ka (min ka kb) ra rb w):=by
 have hll:=ha.l_le;have fa:=ha.fits;have fb:=hb.fits
 have hs:sumR ra+sumR rb≤72057594037927935:=by
  unfold blendErr at he;rw [if_neg (by simp)] at he
  split at he
  ·cases he
  ·omega
 have hW:=LH (fun W h h'=>blend_wrong W ga Ka l ka ra Fa gb Kb l kb rb Fb h h');rw [he] at hW;have a1:=ha.1;have a2:=ha.2.1;have b1:=hb.1;have b2:=hb.2.1;obtain⟨k2,hk2⟩ : ∃k2,k2=min ka kb:=⟨_,rfl⟩;have c1:1≤k2:=by omega
 have c2:k2≤ka:=by omega
 have c3:k2≤kb:=by omega
 have hD:=dig_is ha c1 c2;have la2:=light_weaker fa.roll la c1 c2;have lb2:=light_weaker fb.roll lb c1 c3;have HCa:=LH (fun W h=>digest_Conf W ga Ka l ka ra Fa h);have HCb:=LH (fun W h=>digest_Conf W gb Kb l kb rb Fb h);have HLa:=LH (fun W h=>blend_lowered W ga Ka l ka ra Fa h (fits_ints fa hll.2) (by omega) k2 c1 (by omega) (fun ps s hR=>by have:=hR.folded.len fa;omega));have HLb:=LH (fun W h=>blend_lowered W gb Kb l kb rb Fb h (fits_ints fb hll.2) (by omega) k2 c1 (by omega) (fun ps s hR=>by have:=hR.folded.len fb;omega));have HJ:=LH (fun pa sa pb sb (ha:RunTo l (sumR ra / k2) ra pa sa) (hb:RunTo l (sumR rb / k2) rb pb sb)=>joined_of hll c1 fa fb la2 lb2 hs ha hb);have HJn:=LH (fun pa sa pb sb (ha:RunTo l (sumR ra / k2) ra pa sa) (hb:RunTo l (sumR rb / k2) rb pb sb) W A B ca cb h1 h2=>roll_Join W A B ca cb sa sb h1 h2 (ha.folded.fits fa).roll (hb.folded.fits fb).roll (fits_ints (ha.folded.fits fa) hll.2) (fits_ints (hb.folded.fits fb) hll.2) (by rw [ha.folded.sum fa,hb.folded.sum fb];exact hs) (by have:=ha.folded.len fa;have:=hb.folded.len fb;omega));have HLo:=LH (fun rc (h:Joined l k2 ra rb rc) W A c hS=>digest_Load W l Ka k2 A c rc (h.load hll hD) hS (fits_ints h.fits hll.2) (by have:=h.len;omega));have M0:=LH (And.intro ha hb);unfold MergePost;rw [←hk2];have hmin:=LH hk2;clear ha hb la lb he na nb fa fb hs hD la2 lb2 hk2
 go_enter Tryz.func75,Tryz.ntmps75
 go_wp2_with fail;refine(hW.out w M0.out.1 M0.out.2).mono ?_;rintro e w1 ⟨rfl,hb1⟩;have M1:=LH (And.intro (M0.out.1.below hb1) (M0.out.2.below hb1));have B1:=LH hb1;clear hb1 M0 hW;go_wp2_with fail;refine(HCa.out w1 M1.out.1).mono ?_;rintro e w2 ⟨rfl,hb2⟩
 have M2:Hid (MergeS w ga Ka l ka ra Fa gb Kb kb rb Fb w2.heap.size ka (w2.alloc (.cells #[.int .i64 l,.int .i64 ka,.int .i64 Ka] 28))):=LH (by
  have da:=M1.out.1.below hb2;have db:=M1.out.2.below hb2;have al:=(Below.refl w2.heap.size w2).alloc (Nat.le_refl _) (.cells #[.int .i64 l,.int .i64 ka,.int .i64 Ka] 28);have B2:=Below.then_ B1.out hb2;exact⟨da.below al,db.below al,heap_alloc_new w2 _,B2.trans (al.mono B2.size),B2.size,fun h=>by have:=da.lt _ h;omega,fun h=>by have:=db.lt _ h;omega⟩)
 clear hb2 M1 B1 HCa;go_upto_region 5 with fail;obtain⟨pc,hpc⟩ : ∃p,p=w2.heap.size:=⟨_,rfl⟩;rw [←hpc] at M2⊢;generalize w2.alloc (.cells #[.int .i64 l,.int .i64 ka,.int .i64 Ka] 28) =w3 at M2⊢;clear hpc;refine wp_region_noPanic ?_;refine wp_region_N (fun W'=>MergeS w ga Ka l ka ra Fa gb Kb kb rb Fb pc ka W') [7] (by kernel_rfl) (M2.out.drew) (fun hHeld=> ?_);have M3:=LH hHeld;refine nP 0 (Value.pointer (some ⟨pc,1,none⟩)) (h:= ?_)
 (try simp only [zA,zB,zC,Act.put,zD,zE,zF])
 refine nT 1 (Value.int .i64 ka) (y:=Or.inl ⟨by rfl,fun W hW=>by have q1:=bC hW.c;have q2:=lB hW.c;go_simp⟩) (s:=M3.out) (h:= ?_)
 (try simp only [zA,zB,zC,Act.put,zD,zE,zF])
 refine nP 2 (Value.pointer (some ⟨gb,0,none⟩)) (h:= ?_)
 (try simp only [zA,zB,zC,Act.put,zD,zE,zF])
 refine nO (i:=3) (by kernel_rfl) rfl (fun K hK=> ?_);go_simp;refine(HCb.out w3.drew M3.out.b).mono ?_;rintro e w4 ⟨rfl,hb4⟩;have M4:=LH (M3.out.below hb4);clear hb4;refine hK.out _ _ (fun _ _=>M4.out) ?_;clear hK K
 (try simp only [zA,zB,zC,Act.put,zD,zE,zF])
 refine nP 4 (Value.int .i64 kb) (h:= ?_)
 (try simp only [zA,zB,zC,Act.put,zD,zE,zF])
 refine wpAnyN_pure (i:=5) (v:=Value.int .i64 k2) rfl (by kernel_rfl) (by kernel_rfl) (by kernel_rfl) (fun _ _ _ h=>h) (Or.inl ⟨by rfl,fun W _=>by rw [hmin.out];go_simp⟩) ?_
 (try simp only [zA,zB,zC,Act.put,zD,zE,zF])
 refine nP 6 (Value.pointer (some ⟨pc,1,none⟩)) (h:= ?_)
 (try simp only [zA,zB,zC,Act.put,zD,zE,zF])
 have pcl:=bC M4.out.c;have pf:=bF M4.out.c;have pz:=lB M4.out.c;refine nO (i:=7) (by kernel_rfl) rfl (fun K hK=> ?_);go_simp;refine hK.out _ _ (fun h _=>absurd (List.mem_singleton.2 rfl) h) ?_;clear hK K pf pz pcl
 (try simp only [zA,zB,zC,Act.put,zD,zE,zF])
 refine nD (by kernel_rfl) ?_ _;refine NoPanic.normal ?_;have M5:Hid (MergeS w ga Ka l ka ra Fa gb Kb kb rb Fb pc k2 (w4.setCell ⟨pc,1,none⟩ (.int .i64 k2))):=LH M4.out.set;clear M2 M3 M4 HCb hmin;go_upto_region 6 with fail;generalize w4.setCell ⟨pc,1,none⟩ (.int .i64 k2) =w5 at M5⊢;refine wp_region_noPanic ?_;refine wp_region_N (fun W'=>MergeS w ga Ka l ka ra Fa gb Kb kb rb Fb pc k2 W') [] (by kernel_rfl) (M5.out.drew) (fun hHeld=> ?_);have M6:=LH hHeld;generalize w5.drew=w6 at M6⊢;refine nP 0 (Value.pointer (some ⟨ga,0,none⟩)) (h:= ?_)
 (try simp only [zA,zB,zC,Act.put,zD,zE,zF])
 refine nP 1 (Value.pointer (some ⟨pc,1,none⟩)) (h:= ?_)
 (try simp only [zA,zB,zC,Act.put,zD,zE,zF])
 refine nT 2 (Value.int .i64 k2) (y:=Or.inl ⟨by rfl,fun W hW=>by have q1:=bC hW.c;have q2:=lB hW.c;go_simp⟩) (s:=M6.out) (h:= ?_)
 (try simp only [zA,zB,zC,Act.put,zD,zE,zF])
 refine nP 4 (Value.pointer (some ⟨gb,0,none⟩)) (h:= ?_)
 (try simp only [zA,zB,zC,Act.put,zD,zE,zF])
 refine nP 5 (Value.pointer (some ⟨pc,1,none⟩)) (h:= ?_)
 (try simp only [zA,zB,zC,Act.put,zD,zE,zF])
 refine nT 6 (Value.int .i64 k2) (y:=Or.inl ⟨by rfl,fun W hW=>by have q1:=bC hW.c;have q2:=lB hW.c;go_simp⟩) (s:=M6.out) (h:= ?_)
 (try simp only [zA,zB,zC,Act.put,zD,zE,zF])
 clear M5;refine nO (i:=3) (by kernel_rfl) rfl (fun K hK=> ?_);go_simp;refine(HLa.out w6 M6.out.a).mono ?_;rintro e w7 ⟨va,pa,sa,rfl,ho,hRa,hb7⟩;obtain⟨Aa,ca,rfl,_⟩:=ho.form;have Oa:=LH ho;have Ra:=LH hRa;have M7:=LH (M6.out.below hb7);clear ho hRa hb7;refine hK.out _ _ (fun _ _=>M7.out) ?_;clear hK K
 (try simp only [zA,zB,zC,Act.put,zD,zE,zF])
 refine nO (i:=7) (by kernel_rfl) rfl (fun K hK=> ?_);go_simp;refine(HLb.out w7 M7.out.b).mono ?_;rintro e w8 ⟨vb,pb,sb,rfl,ho,hRb,hb8⟩;obtain⟨Ab,cb,rfl,_⟩:=ho.form;have Ob:=LH ho;have Rb:=LH hRb;have M8:=LH (M7.out.below hb8);have Oa8:=LH (Oa.out.below hb8);clear ho hRb hb8 HLa HLb Oa;refine hK.out _ _ (fun _ _=>M8.out) ?_;clear hK K
 (try simp only [zA,zB,zC,Act.put,zD,zE,zF])
 have JJ:=LH (HJ.out pa sa pb sb Ra.out Rb.out);refine nO (i:=8) (by kernel_rfl) rfl (fun K hK=> ?_);go_simp;refine(HJn.out pa sa pb sb Ra.out Rb.out w8 Aa Ab ca cb Oa8.out.sl Ob.out.sl).mono ?_;rintro e w9 ⟨v9,rfl,ho9,hb9⟩;obtain⟨A9,c9,rfl,_⟩:=ho9.form;have S9:=LH ho9.sl;have M9:=LH (M8.out.below hb9);clear ho9 hb9 HJ HJn Oa8 Ob Ra Rb M6 M7 M8;refine hK.out _ _ (fun _ _=>M9.out) ?_;clear hK K
 (try simp only [zA,zB,zC,Act.put,zD,zE,zF])
 obtain⟨rc,hrc⟩ : ∃r,r=joinR sa sb:=⟨_,rfl⟩;rw [←hrc] at JJ S9⊢;clear hrc;refine nP 9 (Value.tuple #[Value.slice A9 rc.length c9,.bool true]) (h:= ?_)
 (try simp only [zA,zB,zC,Act.put,zD,zE,zF])
 refine nP 10 (Value.slice A9 rc.length c9) (h:= ?_)
 (try simp only [zA,zB,zC,Act.put,zD,zE,zF])
 refine nP 11 (Value.bool true) (h:= ?_)
 (try simp only [zA,zB,zC,Act.put,zD,zE,zF])
 refine nP 12 (Value.slice A9 rc.length c9) (h:= ?_)
 (try simp only [zA,zB,zC,Act.put,zD,zE,zF])
 refine nO (i:=13) (by kernel_rfl) rfl (fun K hK=> ?_);go_simp;refine hK.out _ _ (fun _ _=>M9.out) ?_;clear hK K
 (try simp only [zA,zB,zC,Act.put,zD,zE,zF])
 refine nD (by kernel_rfl) ?_ _;refine NoPanic.normal ?_;have x0:=bC M9.out.c;have xz:=lB M9.out.c;go_wp2_with fail;refine(HLo.out rc JJ.out w9 A9 c9 S9.out).mono ?_;rintro e w10 ⟨gr,Fr,rfl,hd,hf,hb10⟩;have D10:=LH hd;have E10:=LH (fun b hb=>Nat.le_trans M9.out.blw.size (hf b hb));have B10:=LH (Below.then_ M9.out.blw hb10);clear hd hf hb10 x0 xz M9 HLo;go_wp2_with fail
 go_ret2
 exact⟨gr,Fr,rc,rfl,D10.out,E10.out,JJ.out,B10.out⟩
def PlcAt (W:World) (g:Nat) (p:Plc) :Prop:=W.heap[g]? =some (.cells #[.int .i64 p.me,.int .u64 p.kids,.int .i64 p.wait] 128 (0,0))
theorem PlcAt.below {w w':World} {g:Nat} {p:Plc} (h:PlcAt w g p) (hb:Below w.heap.size w w') :PlcAt w' g p:=bB h hb
theorem PlcAt.new (w:World) (p:Plc) :PlcAt (w.alloc (.cells #[.int .i64 p.me,.int .u64 p.kids,.int .i64 p.wait] 128)) w.heap.size p:=heap_alloc_new w _
def rightS (p:Plc) :Bool:=isCrew p.me && rightC p.kids && !hasC p.kids p.me && decide (1≤p.wait) && decide (p.wait≤1048576)
theorem sensor_right (w:World) (p:Plc) (hk:p.kids<2^64) :Calls Tryz.prog 105 #[plcV p] w fun e w'=>e=.returned (.bool (rightS p))∧Below w.heap.size w w':=by
 have HA0:=LH (PlcAt.new w p);have HB0:Hid (Below w.heap.size w (w.alloc (.cells #[.int .i64 p.me,.int .u64 p.kids,.int .i64 p.wait] 128))):=LH bE;have HR:=LH (fun W=>crew_Right p.kids W);have HH:=LH (fun W=>crew_Has p.kids p.me hk W)
 have HO:Hid (∀W n,W.heap.size=n→Calls Tryz.prog 152 #[.slice (some ⟨n,0,none⟩) 1 1] (W.alloc (.cells #[.int .i64 p.me] 3)) fun e w'=>e=.returned (.tuple #[.int .u64 (if isCrew p.me=true then withC 0 p.me else 0:Nat),.bool (isCrew p.me)])∧Below W.heap.size W w'):=LH (fun W n hn=>by
  subst hn;refine(crew_Of1 _ _ _ p.me (Own.lit W encZ [p.me] 3 (Nat.le_refl _) (by simp [maxLen]))).mono ?_;rintro e w' ⟨he,hb⟩;exact⟨he,((Below.refl W.heap.size W).alloc (Nat.le_refl _) _).trans (hb.mono (by simp))⟩)
 generalize hZ:rightS p=Z;have HZ:=LH hZ;clear hZ hk;generalize hU: (if isCrew p.me=true then withC 0 p.me else 0) =U at HO;clear hU;obtain⟨me,kids,wait⟩:=p;unfold plcV;unfold rightS at HZ;dsimp only at*;generalize isCrew me=z1 at*;generalize rightC kids=z2 at*;generalize hasC kids me=z3 at*
 go_enter Tryz.func105,Tryz.ntmps105
 go_wp2_with fail;refine(HO.out _ _ (by simp)).mono ?_;rintro e1 w1 ⟨rfl,hb1⟩;have HB1:=LH (HB0.out.trans (hb1.mono (by simp)));have HA1:=LH (HA0.out.below hb1);clear hb1;have cc:=bC HA1.out;have cf:=bF HA1.out;have zb:=lB HA1.out
 cases z1
 ·go_wp2_with fail
  exact bR (v:=.bool false) (by simp only [results,Tryz.results105];go_simp) rfl ⟨by rw [←HZ.out];rfl,HB1.out⟩
 go_wp2_with fail;refine(HR.out _).mono ?_;rintro e2 w2 ⟨rfl,hb2⟩;have HB2:=LH (HB1.out.trans (hb2.mono HB1.out.size));have HA2:=LH (HA1.out.below hb2);clear hb2 cc cf zb;have cc2:=bC HA2.out;have cf2:=bF HA2.out;have zb2:=lB HA2.out
 cases z2
 ·go_wp2_with fail
  exact bR (v:=.bool false) (by simp only [results,Tryz.results105];go_simp) rfl ⟨by rw [←HZ.out];rfl,HB2.out⟩
 go_wp2_with fail;refine(HH.out _).mono ?_;rintro e3 w3 ⟨rfl,hb3⟩;have HB3:=LH (HB2.out.trans (hb3.mono HB2.out.size));have HA3:=LH (HA2.out.below hb3);clear hb3 cc2 cf2 zb2;have cc3:=bC HA3.out;have cf3:=bF HA3.out;have zb3:=lB HA3.out
 cases z3
 ·by_cases h1:1≤wait
  ·have hd:decide (1≤wait) =true:=by simpa using h1
   rw [hd] at HZ;go_wp2_with fail;exact bR (v:=.bool (decide (wait≤1048576))) (by simp only [results,Tryz.results105];go_simp) rfl ⟨by rw [←HZ.out];rfl,HB3.out⟩
  ·have hd:decide (1≤wait) =false:=by simpa using h1
   rw [hd] at HZ;go_wp2_with fail;exact bR (v:=.bool false) (by simp only [results,Tryz.results105];go_simp) rfl ⟨by rw [←HZ.out];rfl,HB3.out⟩
 ·go_wp2_with fail
  exact bR (v:=.bool false) (by simp only [results,Tryz.results105];go_simp) rfl ⟨by rw [←HZ.out];rfl,HB3.out⟩
def SensAt (w:World) (g K l:Nat) (s:Sen) (r:List Nd) (F:Nat→Prop) :Prop:=∃dg F0,F=footP g F0∧SenAt w g dg s∧s.l=l∧s.kd=K∧DigAt w dg K l s.k r F0∧¬F0 g
section
variable {w w':World} {g K l:Nat} {s:Sen} {r:List Nd} {F:Nat→Prop}
theorem SensAt.lt (h:SensAt w g K l s r F) : ∀b,F b→b<w.heap.size:=by
 obtain⟨dg,F0,rfl,h1,_,_,h2,_⟩:=h;rintro b (rfl|hb)
 ·exact lB h1
 ·exact h2.lt b hb
theorem SensAt.below (h:SensAt w g K l s r F) (hb:Below w.heap.size w w') :SensAt w' g K l s r F:=by
 obtain⟨dg,F0,rfl,h1,h3,h4,h2,h5⟩:=h;exact⟨dg,F0,rfl,h1.below hb,h3,h4,h2.below hb,h5⟩
theorem SensAt.keep (h:SensAt w g K l s r F) (hk: ∀b,F b→w'.heap[b]? =w.heap[b]?) :SensAt w' g K l s r F:=by
 obtain⟨dg,F0,rfl,h1,h3,h4,h2,h5⟩:=h;exact⟨dg,F0,rfl,(hk g (.inl rfl)).trans h1,h3,h4,h2.keep fun b hb=>hk b (.inr hb),h5⟩
theorem SensAt.own (h:SensAt w g K l s r F) :F g:=by
 obtain⟨dg,F0,rfl,_⟩:=h;exact .inl rfl
end
def SensTo (w:World) (g K l:Nat) (s:Sen) (r:List Nd) (F:Nat→Prop) (w':World) :Prop:=∃F',SensAt w' g K l s r F'∧Turn F w w'∧Grow w F F'
theorem SensTo.below {w w':World} {g K l:Nat} {s:Sen} {r:List Nd} {F:Nat→Prop} (h:SensAt w g K l s r F) (hb:Below w.heap.size w w') :SensTo w g K l s r F w':=⟨F,h.below hb,.of_below hb,Grow.refl⟩
theorem SensTo.then_ {w w1 w':World} {g K l:Nat} {s:Sen} {r:List Nd} {F:Nat→Prop} (h:SensTo w g K l s r F w1) (hB:Below w1.heap.size w1 w') :SensTo w g K l s r F w':=by
 obtain⟨F',h1,h2,h3⟩:=h;exact⟨F',h1.below hB,h2.more hB,h3⟩
def newS (l k K:Int) (p:Plc) (ep:Int) :Bool:=isDig l k K && rightS p && decide (0≤ep) && decide (ep≤1099511627776)
def senNew (l k K:Int) (p:Plc) (ep:Int) :Sen:=⟨l,k,K,p,ep,0,0,withC 0 p.me,false⟩
def confV (l k K:Int) :Value:=.agg #[.int .i64 l,.int .i64 k,.int .i64 K]
structure NewS (w:World) (l k K:Int) (p:Plc) (W:World) :Prop where
 c:W.heap[w.heap.size]? =some (.cells #[.int .i64 l,.int .i64 k,.int .i64 K] 28 (0,0))
 p:W.heap[w.heap.size+1]? =some (.cells #[.int .i64 p.me,.int .u64 p.kids,.int .i64 p.wait] 128 (0,0))
 b:Below w.heap.size w W
theorem NewS.below {w W W':World} {l k K:Int} {p:Plc} (h:NewS w l k K p W) (hb:Below W.heap.size W W') :NewS w l k K p W':=⟨bB h.c hb,bB h.p hb,h.b.trans (hb.mono h.b.size)⟩
theorem NewS.first (w:World) (l k K:Int) (p:Plc) :NewS w l k K p ((w.alloc (.cells #[.int .i64 l,.int .i64 k,.int .i64 K] 28)).alloc (.cells #[.int .i64 p.me,.int .u64 p.kids,.int .i64 p.wait] 128)):=
 ⟨(heap_new_lt _ _ _ (by simp)).trans (heap_alloc_new w _),heap_new_at (w.alloc _) _ _ (by simp),bE⟩
def SenPost (K l:Nat) (s:Sen) (w:World) (e:Ending) (w':World) :Prop:=∃g F,e=.returned (.tuple #[.pointer (some ⟨g,0,none⟩),.int .i64 0])∧SensAt w' g K l s [] F∧(∀b,F b→w.heap.size≤b)∧Below w.heap.size w w'
theorem sensor_New (w:World) (l K:Nat) (k:Int) (p:Plc) (ep:Int) (hk:p.kids<2^64) (h:newS l k K p ep=true) :
 Calls Tryz.prog 60 #[confV l k K,plcV p,.int .i64 ep] w (SenPost K l (senNew l k K p ep) w):=by
 have N0:=LH (NewS.first w l k K p);have HR:=LH (fun W=>sensor_right W p hk);have HW:=LH (fun W=>crew_With 0 p.me (by decide) W);unfold newS at h;simp only [Bool.and_eq_true,decide_eq_true_eq] at h;obtain⟨⟨⟨hd,hr⟩,h0⟩,h1⟩:=h;have HD:=LH (fun W=>digest_New W l K k hd);rw [hr] at HR;unfold confV;unfold plcV at HR⊢;clear hk hd hr;obtain⟨me,kids,wait⟩:=p;dsimp only at*;unfold senNew;dsimp only
 go_enter Tryz.func60,Tryz.ntmps60
 go_upto_region 1 with fail;generalize (w.alloc (.cells #[.int .i64 l,.int .i64 k,.int .i64 K] 28)).alloc (.cells #[.int .i64 me,.int .u64 kids,.int .i64 wait] 128) =W0 at N0⊢;have c0:=bC N0.out.c;have z0:=lB N0.out.c;go_wp2_with fail;refine(HD.out W0).mono ?_;rintro e w1 ⟨dg,F,rfl,hd1,hF1,hb1⟩;have D1:=LH hd1;have HF:=LH hF1;have N1:=LH (N0.out.below hb1);have B1:=LH N1.out.b;have c1:=bC N1.out.p;have z1:=lB N1.out.p;clear hd1 hF1 hb1 c0 z0;go_wp2_with fail;refine(HR.out _).mono ?_;rintro e w2 ⟨rfl,hb2⟩;have N2:=LH (N1.out.below hb2);have D2:=LH (D1.out.below hb2);have B2:=LH (Below.then_ B1.out hb2);clear hb2 c1 z1 N1 D1 B1;have h0':decide (ep<0) =false:=by simpa using h0
 have h1':decide (1099511627776<ep) =false:=by simpa using h1
 clear h0 h1;have N0s:=LH N0.out.b.size;go_upto_region 4 with fail;refine wp_region_noPanic ?_;refine wp_region_N (fun w'=>NewS w l k K ⟨me,kids,wait⟩ w') [] (by kernel_rfl) (N2.out.below bE) (fun hHeld=> ?_);refine wpAnyN_take (i:=0) (v:=Value.agg #[.int .i64 l,.int .i64 k,.int .i64 K]) rfl (by kernel_rfl) (by kernel_rfl) (by kernel_rfl) (by kernel_rfl) (fun _ _ _ h=>h) (Or.inl ⟨by rfl,fun W hW=>by have q1:=bC hW.c;have q2:=lB hW.c;have q3:=bC hW.p;have q4:=lB hW.p;go_simp⟩) (N2.out.below bE) ?_
 (try simp only [zA,zB,zC,Act.put,zD,zE,zF])
 refine wpAnyN_take (i:=1) (v:=Value.agg #[.int .i64 me,.int .u64 kids,.int .i64 wait]) rfl (by kernel_rfl) (by kernel_rfl) (by kernel_rfl) (by kernel_rfl) (fun _ _ _ h=>h) (Or.inl ⟨by rfl,fun W hW=>by have q1:=bC hW.c;have q2:=lB hW.c;have q3:=bC hW.p;have q4:=lB hW.p;go_simp⟩) (N2.out.below bE) ?_
 (try simp only [zA,zB,zC,Act.put,zD,zE,zF])
 refine nP 2 (Value.int .i64 ep) (h:= ?_)
 (try simp only [zA,zB,zC,Act.put,zD,zE,zF])
 refine nP 3 (Value.pointer (some ⟨w.heap.size+1,0,none⟩)) (h:= ?_)
 (try simp only [zA,zB,zC,Act.put,zD,zE,zF])
 refine wpAnyN_take (i:=4) (v:=Value.int .i64 me) rfl (by kernel_rfl) (by kernel_rfl) (by kernel_rfl) (by kernel_rfl) (fun _ _ _ h=>h) (Or.inl ⟨by rfl,fun W hW=>by have q1:=bC hW.c;have q2:=lB hW.c;have q3:=bC hW.p;have q4:=lB hW.p;go_simp⟩) (N2.out.below bE) ?_
 (try simp only [zA,zB,zC,Act.put,zD,zE,zF])
 refine nP 6 (Value.pointer (some ⟨dg,0,none⟩)) (h:= ?_)
 (try simp only [zA,zB,zC,Act.put,zD,zE,zF])
 refine nO (i:=5) (by kernel_rfl) rfl (fun K hK=> ?_);go_simp;refine(HW.out _).mono ?_;rintro e w3 ⟨rfl,hb3⟩;have N3:=LH ((N2.out.below (W':=w2.drew) bE).below hb3);have D3:=LH ((D2.out.below (w':=w2.drew) bE).below hb3);have B3:=LH (Below.then_ (W:=w2.drew) (B2.out.drew) hb3);clear hb3;refine hK.out _ _ (fun _ _=>N3.out) ?_;clear hK K
 (try simp only [zA,zB,zC,Act.put,zD,zE,zF])
 refine nP 7 (Value.agg #[.int .i64 l,.int .i64 k,.int .i64 K,.int .i64 me,.int .u64 kids,.int .i64 wait,.int .i64 ep,.int .i64 0,.int .u64 0,.int .u64 ((withC 0 me:Nat) :Int),.bool false,.pointer (some ⟨dg,0,none⟩)]) (h:= ?_)
 (try simp only [zA,zB,zC,Act.put,zD,zE,zF])
 refine nO (i:=8) (by kernel_rfl) rfl (fun K hK=> ?_);go_simp;refine hK.out _ _ (fun _ _=>N3.out.below bE) ?_;clear hK K
 (try simp only [zA,zB,zC,Act.put,zD,zE,zF])
 refine nP 9 (Value.pointer (some ⟨w3.heap.size,0,none⟩)) (h:= ?_)
 (try simp only [zA,zB,zC,Act.put,zD,zE,zF])
 refine nO (i:=10) (by kernel_rfl) rfl (fun K hK=> ?_);go_simp;refine hK.out _ _ (fun _ _=>N3.out.below bE) ?_;clear hK K
 (try simp only [zA,zB,zC,Act.put,zD,zE,zF])
 refine nD (by kernel_rfl) ?_ _;refine NoPanic.normal ?_;clear N0 N2 D2 B2;go_wp2_with fail;have HZ:=LH B3.out.size
 have HX:Hid (SensAt (w3.alloc (.cells #[.int .i64 l,.int .i64 k,.int .i64 K,.int .i64 me,.int .u64 kids,.int .i64 wait,.int .i64 ep,.int .i64 0,.int .u64 0,.int .u64 ((withC 0 me:Nat) :Int),.bool false,.pointer (some ⟨dg,0,none⟩)] 153)) w3.heap.size K l ⟨l,k,K,⟨me,kids,wait⟩,ep,0,0,withC 0 me,false⟩ [] (footP w3.heap.size F)):=
  LH ⟨dg,F,rfl,heap_alloc_new w3 _,rfl,rfl,D3.out.below bE,fun h=>by have:=D3.out.lt _ h;omega⟩
 refine bR (v:=.tuple #[.pointer (some ⟨w3.heap.size,0,none⟩),.int .i64 0]) (by simp only [results,Tryz.results60];go_simp) rfl ⟨w3.heap.size,footP w3.heap.size F,rfl,HX.out,?_,?_⟩
 ·rintro b (rfl|hb)
  ·exact HZ.out
  ·exact Nat.le_trans N0s.out (HF.out b hb)
 ·have B3:=B3.out
  exact bE
theorem flatZC (C:List Int) :C.flatMap encZ.enc=C.map (fun x=>Value.int .i64 x):=by
 induction C with
 |nil=>rfl
 |cons x C ih=>rw [List.flatMap_cons,ih];rfl
theorem dense_Clone_nil (w:World) :Calls Tryz.prog 115 #[.pointer none] w fun e w'=>e=.returned (.pointer none)∧Below w.heap.size w w':=by
 go_enter Tryz.func115,Tryz.ntmps115
 go_wp2_with fail;go_ret;exact⟨rfl,bE⟩
theorem dense_Clone (w:World) (g l:Nat) (r:List Nd) (F:Nat→Prop) (h:DenseAt w g l r F) (h16:l≤16) :Calls Tryz.prog 115 #[.pointer (some ⟨g,0,none⟩)] w fun e w'=>
 ∃g' F',e=.returned (.pointer (some ⟨g',0,none⟩))∧DenseAt w' g' l r F'∧(∀b,F' b→w.heap.size≤b)∧Below w.heap.size w w':=by
 obtain⟨i,hi,hz0,hz1,hz2⟩:=info_parts infoZ;obtain⟨v,C,hh,ho,hl,hc,_⟩:=h;have q5:2^l≤65536:=by have:=Nat.pow_le_pow_right (n:=2) (by decide) h16;simpa using this
 have q6:=Nat.two_pow_pos l;obtain⟨b,off,cap,rfl,hcap⟩:=own_at0 ho (by omega);obtain⟨n,hn⟩ : ∃n,n=C.length:=⟨_,rfl⟩;have n1:n≤131072:=by omega
 have n0:0<n:=by omega
 rw [←hn] at ho hh;have HN:=LH hn;have HL:=LH hl;have HC:=LH hc;have HO:=LH ho;have H:=LH hh;have c:=bC hh;have z:=lB hh;clear hh ho hl hc q5 q6 hn hcap
 go_enter Tryz.func115,Tryz.ntmps115
 go_upto_region 4 with fail;go_wp2_with ((at_make;refine wpList_make_full _ rfl _ _ 26 rfl w.heap.size 3 i (.int .i64 0) 1 Tryz.underlying26 hi hz0 hz1 _ _ _ _ n rfl rfl ?hL ?hC ?b2 ?b3 ?b4 ?hK))
 case hL=>simp
 case hC=>simp
 case b2=>rw [hz2];omega
 case b3=>simp only [maxLen];omega
 case b4=>simp
 case hK=>
  intro w1 hr hg;have hmf:=made_flat encZ 0 #[.int .i64 0] n rfl (by decide);rw [Nat.mul_one] at hmf;rw [hmf] at hr;have b0:Below (w.heap.size+1) (w.alloc (.cells #[.int .i64 l,.int .i64 r.length,.int .i64 (sumR r),.slice (some ⟨b,off,none⟩) n cap] 219)) w1:=(Below.refl _ _).grown hg (by simp) (fun k hk=>by cases hk);have b1:Below w.heap.size w w1:=((Below.refl w.heap.size w).alloc (Nat.le_refl _) _).trans (b0.mono (Nat.le_succ _));have k1:=(b0.block w.heap.size (by omega)).trans (heap_alloc_new w _)
  obtain⟨cur,kc,hcs⟩ : ∃cur,w1.heap[w.heap.size+1]? =some (.cells cur 3 (0,0))∧cur.size=n:=by
   obtain⟨_,⟨_,h0⟩ | ⟨g',cap',cur,he,_,hc,_,_,hs,_⟩⟩:=hr
   ·omega
   ·simp only [Value.slice.injEq,Option.some.injEq,Addr.mk.injEq,true_and,and_true] at he
    obtain⟨rfl,rfl⟩:=he;exact⟨cur,hc,by omega⟩
  have kg:=LH ((b1.block g z).trans H.out);have ko:=LH ((HO.out.of_block fun q hq=>b1.block q (HO.out.lt q hq).2:Own w1 0 3 encZ _ C));have K1:=LH k1;have KC:=LH kc;have cs1:=LH hcs;have c1:=bC k1;have z1:=lB k1;have f1:=bF k1;have B1:=LH b1;clear b0 b1 hr hg hmf c k1 kc hcs;go_upto_region 5 with fail
  have hne:Value.ownBlock (.slice (some ⟨b,off,none⟩) n cap)≠some w.heap.size:=fun he=>by
   have:=(HO.out.lt _ he).2;omega
  have k2: (w1.setCell ⟨w.heap.size,3,none⟩ (.slice (some ⟨w.heap.size+1,0,none⟩) n n)).heap[w.heap.size]? =some (.cells #[.int .i64 l,.int .i64 r.length,.int .i64 (sumR r),.slice (some ⟨w.heap.size+1,0,none⟩) n n] 219 (0,0)):=zH (i:=3) K1.out _;have g2:=(Below.heap_setCell w1 ⟨w.heap.size,3,none⟩ (.slice (some ⟨w.heap.size+1,0,none⟩) n n) g (by simp;omega)).trans kg.out;have r2:=(Below.heap_setCell w1 ⟨w.heap.size,3,none⟩ (.slice (some ⟨w.heap.size+1,0,none⟩) n n) (w.heap.size+1) (by simp)).trans KC.out;have o2:=ko.out.setCell (p:=⟨w.heap.size,3,none⟩) hne (.slice (some ⟨w.heap.size+1,0,none⟩) n n);have b2:Below w.heap.size w (w1.setCell ⟨w.heap.size,3,none⟩ (.slice (some ⟨w.heap.size+1,0,none⟩) n n)):=B1.out.setCell (Nat.le_refl _) _;generalize w1.setCell ⟨w.heap.size,3,none⟩ (.slice (some ⟨w.heap.size+1,0,none⟩) n n) =W2 at k2 g2 r2 o2 b2⊢;clear K1 kg ko KC B1 c1 z1 f1;obtain⟨cs,hcs⟩ : ∃cs,cs=C.map (fun x=>Value.int .i64 x):=⟨_,rfl⟩;have el:cs.length=n:=by rw [hcs,List.length_map];exact HN.out.symm
  have e1: ∀u∈cs,u.oneCell'=true:=by
   intro u hu;rw [hcs] at hu;obtain⟨x,_,rfl⟩:=List.mem_map.1 hu
   rfl
  have src: ∀j u,cs[j]? =some u→W2.cell? ((⟨b,off,none⟩ :Addr).add j) =some u:=by
   intro j u hj;rcases o2 with ⟨h0,_⟩ | ⟨b',off',cap',cur',he,_,hb2,_,_,_,hx⟩
   ·cases h0
   ·simp only [Value.slice.injEq,Option.some.injEq,Addr.mk.injEq,and_true] at he
    obtain⟨⟨rfl,rfl⟩,_⟩:=he;rw [add_plain,bC hb2];refine hx j u ?_;rw [hcs,List.getElem?_map] at hj;rw [flatZC,List.getElem?_map];exact hj
  have c2:=bC k2;have z2:=lB k2;have f2:=bF k2;have c3:=bC g2;have HB:=LH b2;have hlt0:Hid (b<W2.heap.size):=LH (o2.lt b rfl).2;have HK:=LH k2;have G2:=LH g2;have HS:=LH src;have HE:=LH e1;have R2:=LH r2;have EL:=LH el;have CS:=LH cs1.out;have HCS:=LH hcs;clear b2 k2 src e1 r2 el g2 o2 hcs;refine wp_region_N (fun W=>Below W2.heap.size W2 W) [6] (by kernel_rfl) (Below.drew (Below.refl _ _)) (fun hHeld=> ?_);refine nP 0 (.pointer (some ⟨w.heap.size,3,none⟩)) (h:= ?_)
  (try simp only [Act.put,zD,zE,zF])
  refine nT 1 (.slice (some ⟨w.heap.size+1,0,none⟩) n n) (y:=Or.inl ⟨by rfl,fun W hW=>by have q1:=bC (bB HK.out hW);have q2:=bC (bB G2.out hW);go_simp⟩) (s:=hHeld) (h:= ?_)
  (try simp only [Act.put,zD,zE,zF])
  refine nP 2 (.pointer (some ⟨g,0,none⟩)) (h:= ?_)
  (try simp only [Act.put,zD,zE,zF])
  refine nP 3 (.pointer (some ⟨g,0,none⟩)) (h:= ?_)
  (try simp only [Act.put,zD,zE,zF])
  refine nP 4 (.pointer (some ⟨g,3,none⟩)) (h:= ?_)
  (try simp only [Act.put,zD,zE,zF])
  refine nT 5 (.slice (some ⟨b,off,none⟩) n cap) (y:=Or.inl ⟨by rfl,fun W hW=>by have q1:=bC (bB HK.out hW);have q2:=bC (bB G2.out hW);go_simp⟩) (s:=hHeld) (h:= ?_)
  (try simp only [Act.put,zD,zE,zF])
  have BW:=LH hHeld;clear hHeld;generalize W2.drew=W3 at BW⊢;have r3:=bB R2.out BW.out;have k3:=LH (bB HK.out BW.out);refine nO (i:=6) (by kernel_rfl) rfl (fun K hK=> ?_);go_simp;rw [run_copy_row (P:=Tryz.prog) W3 26 26 _ 3 (w.heap.size+1) 0 n n ⟨b,off,none⟩ n cap cur 3 cs Tryz.underlying26 (by kernel_rfl) r3 (by rw [EL.out];exact(Nat.min_self n).symm) (fun j u hj=>(BW.out.cell ?hlt).trans (HS.out j u hj)) (by rw [EL.out,CS.out];omega) HE.out]
  case hlt=>rw [add_plain];exact hlt0.out
  go_simp;refine hK.out _ _ (fun h=>absurd (by simp) h) ?_;refine nD (by kernel_rfl) ?_ _;have row:=LH (setRow_heap W3 (w.heap.size+1) _ (cs ++ List.drop cs.length cur.toList).toArray 3 _ r3);have k4:=LH ((setRow_other W3 (w.heap.size+1) w.heap.size (cs ++ List.drop cs.length cur.toList).toArray (by omega)).trans k3.out);have b4:=LH (below_setRow (HB.out.trans (BW.out.mono HB.out.size)) (Nat.le_succ _) (cs ++ List.drop cs.length cur.toList).toArray:Below w.heap.size w (W3.setRow (w.heap.size+1) _));generalize W3.setRow (w.heap.size+1) (cs ++ List.drop cs.length cur.toList).toArray=W4 at row k4 b4⊢;clear hK K r3 k3;go_wp2_with fail;go_ret;refine⟨w.heap.size,_,rfl,⟨_,C,k4.out,.inr ⟨w.heap.size+1,0,n,_,by rw [HN.out],Nat.zero_le _,row.out,Nat.le_of_eq HN.out.symm,by simp only [maxLen];omega,by simp [EL.out],fun j u hj=> ?_⟩,HL.out,HC.out,rfl⟩,?_,b4.out⟩
  ·rw [flatZC,←HCS.out] at hj
   have hlt:j<cs.length:=(List.getElem?_eq_some_iff.1 hj).1;simp only [Nat.zero_add,List.getElem?_toArray];rw [List.getElem?_append_left hlt];exact hj
  ·rintro q (rfl|hq)
   ·exact Nat.le_refl _
   ·cases hq;exact Nat.le_succ _
theorem clone_T (w:World) (A:Option Addr) (cap:Nat) (l:List Nd) (hS:Sl w w.heap.size encN A l) (hn:l.length≤17179869184) :
 Calls Tryz.prog 166 #[.slice A l.length cap] w (OwnPost 172 encN l w):=by
 rcases A with _|a
 ·have h0:l= []:=by
   rcases hS with h| ⟨b,off,hA,_⟩
   ·exact h
   ·cases hA
  subst h0
  go_enter Tryz.func166,Tryz.ntmps166
  go_wp2_with fail;go_ret;exact⟨_,rfl,Own.nil _ _ _ _,bE⟩
 ·have HS:=LH hS
  clear hS
  go_enter Tryz.func166,Tryz.ntmps166
  go_wp2_with ((at_builtin;refine wpList_app tyN rfl _ _ rfl encN w.heap.size (.slice (some ⟨w.heap.size,0,none⟩) 0 0) [] rfl ?ho (some a) cap l w.heap.size rfl ?hs ?c1 ?c2 ?c3 ?c4))
  case ho=>exact .inr ⟨w.heap.size,0,0, #[],rfl,Nat.le_refl _,heap_alloc_new w _,Nat.le_refl _,by simp,by simp,fun j u hj=>by simp at hj⟩
  case hs=>exact HS.out.keep (Nat.le_refl _) fun p hp=>((Below.refl w.heap.size w).alloc (Nat.le_refl _) _).cell hp
  case c1=>simp;omega
  case c2=>simp [maxLen];omega
  case c3=>simp
  case c4=>
   intro v' w1 ho1 _ _ hb1 _;have B1:Below w.heap.size w w1:=((Below.refl w.heap.size w).alloc (Nat.le_refl _) _).trans hb1;have HO1:=LH (show Own w1 w.heap.size 172 encN v' l by simpa using ho1);clear ho1;go_wp2_with fail;go_ret;exact⟨_,rfl,HO1.out,B1⟩
theorem probe_Clone_nil (w:World) :Calls Tryz.prog 116 #[.pointer none] w fun e w'=>e=.returned (.pointer none)∧Below w.heap.size w w':=by
 go_enter Tryz.func116,Tryz.ntmps116
 go_wp2_with fail;go_ret;exact⟨rfl,bE⟩
theorem PInv.length {b:Nat} {S m:List Nd} (h:PInv b S m) :S.length=2^b:=h.len
theorem probe_Clone (w:World) (g l:Nat) (r:List Nd) (F:Nat→Prop) (h:ProbeAt w g l r F) :Calls Tryz.prog 116 #[.pointer (some ⟨g,0,none⟩)] w fun e w'=>
 ∃g' F',e=.returned (.pointer (some ⟨g',0,none⟩))∧ProbeAt w' g' l r F'∧(∀b,F' b→w.heap.size≤b)∧Below w.heap.size w w':=by
 obtain⟨v,S,b,hh,ho,hI,h3,h34,h2,_⟩:=h
 have hlen:S.length≤17179869184:=by
  have:=PInv.length hI;have h5:=Nat.pow_le_pow_right (n:=2) (by decide) h34;have h6: (2:Nat) ^34=17179869184:=by decide
  omega
 obtain⟨A,cap,rfl,hc1,hc2,hS⟩:=ho.rd;have HC:=LH (fun (W:World) (a:Sl W W.heap.size encN A S)=>clone_T W A cap S a hlen);have HS:=LH hS;have HI:=LH hI;have H2:=LH h2;have c:=bC hh;have z:=lB hh;clear hh ho hS hI h2 hc1 hc2 hlen
 go_enter Tryz.func116,Tryz.ntmps116
 go_wp2_with fail;refine(HC.out _ ?hs).mono ?_
 case hs=>exact HS.out.keep (by simp) fun p hp=>((Below.refl w.heap.size w).alloc (Nat.le_refl _) _).cell hp
 rintro e w1 ⟨v',rfl,ho1,hb1⟩;obtain⟨A',cap',rfl,hf1,hf2,_⟩:=ho1.form;have k1:=bB (heap_alloc_new w _) hb1;have c1:=bC k1;have z1:=lB k1;have f1:=bF k1;have B1:=LH (((Below.refl w.heap.size w).alloc (Nat.le_refl _) (.cells #[.int .i64 l,.int .i64 b,.int .i64 r.length,.int .i64 (sumR r),.slice A S.length cap] 221)).trans (hb1.mono (by simp)));have K1:=LH k1;have O1:=LH ho1;clear c k1 ho1 hb1;go_wp2_with fail;go_ret
 have hne:Value.ownBlock (.slice A' S.length cap')≠some w.heap.size:=fun he=>by
  have:=(O1.out.lt _ he).1;simp at this
  omega
 refine⟨w.heap.size,_,rfl,⟨_,S,b,zH (i:=4) K1.out _,(O1.out.setCell (p:=⟨w.heap.size,4,none⟩) hne _).base_le (Nat.zero_le _),HI.out,h3,h34,H2.out,rfl⟩,?_,B1.out.setCell (Nat.le_refl _) _⟩;rintro q (rfl|hq)
 ·exact Nat.le_refl _
 ·have:=(O1.out.lt _ hq).1
  simp at this
  omega
theorem pool_Clone (w:World) (g K l:Nat) (r:List Nd) (F:Nat→Prop) (h:PoolAt w g K l r F) :Calls Tryz.prog 71 #[.pointer (some ⟨g,0,none⟩)] w fun e w'=>
 ∃g' F',e=.returned (.pointer (some ⟨g',0,none⟩))∧PoolAt w' g' K l r F'∧(∀b,F' b→w.heap.size≤b)∧Below w.heap.size w w':=by
 obtain⟨h1,h2,hf,p,F0,_,h4⟩:=h;have HF:=LH hf;rcases h4 with ⟨rfl,h16,hh,hd⟩ | ⟨rfl,hh,hd⟩
 ·skip
  have H:=LH hh;have Z:=LH (lB hh);have HD:=LH hd;clear hh hd hf
  go_enter Tryz.func71,Tryz.ntmps71
  go_upto_region 3 with fail;refine wp_region_N (fun W=>Below w.heap.size w W) [] (by kernel_rfl) (Below.drew (Below.refl _ _)) (fun hHeld=> ?_);refine nP 0 (.pointer (some ⟨g,0,none⟩)) (h:= ?_)
  (try simp only [Act.put,zD,zE,zF])
  refine nP 1 (.pointer (some ⟨g,0,none⟩)) (h:= ?_)
  (try simp only [Act.put,zD,zE,zF])
  refine nP 2 (.pointer (some ⟨g,0,none⟩)) (h:= ?_)
  (try simp only [Act.put,zD,zE,zF])
  refine nT 3 (.pointer (some ⟨p,0,none⟩)) (y:=Or.inl ⟨by rfl,fun W hW=>by have q1:=bC ((hW.block g Z.out).trans H.out);go_simp⟩) (s:=hHeld) (h:= ?_)
  (try simp only [Act.put,zD,zE,zF])
  refine nP 5 (.pointer (some ⟨g,0,none⟩)) (h:= ?_)
  (try simp only [Act.put,zD,zE,zF])
  refine nP 6 (.pointer (some ⟨g,0,none⟩)) (h:= ?_)
  (try simp only [Act.put,zD,zE,zF])
  refine nP 7 (.pointer (some ⟨g,1,none⟩)) (h:= ?_)
  (try simp only [Act.put,zD,zE,zF])
  refine nT 8 (.pointer none) (y:=Or.inl ⟨by rfl,fun W hW=>by have q1:=bC ((hW.block g Z.out).trans H.out);go_simp⟩) (s:=hHeld) (h:= ?_)
  (try simp only [Act.put,zD,zE,zF])
  have B0:=hHeld;clear hHeld;generalize w.drew=V0 at B0⊢;refine nO (i:=4) (by kernel_rfl) rfl (fun K' hK=> ?_);go_simp;refine(dense_Clone _ p l r F0 (HD.out.keep fun q hq=>B0.block q (HD.out.lt q hq)) h16).mono ?_;rintro e V1 ⟨p',F1,rfl,hd1,hF1,hb⟩;have B1:=B0.trans (hb.mono B0.size);refine hK.out _ _ (fun _ _=>B1) ?_;clear hK K'
  (try simp only [Act.put,zD,zE,zF])
  refine nO (i:=9) (by kernel_rfl) rfl (fun K' hK=> ?_);go_simp;refine(probe_Clone_nil _).mono ?_;rintro e V2 ⟨rfl,hb2⟩;have hd2:=LH (hd1.below hb2);have hF2:=LH (fun q hq=>Nat.le_trans B0.size (hF1 q hq));clear hd1 hF1;have B2:=B1.trans (hb2.mono B1.size);refine hK.out _ _ (fun _ _=>B2) ?_;clear hK K'
  (try simp only [Act.put,zD,zE,zF])
  refine nP 10 (.agg #[.pointer (some ⟨p',0,none⟩),.pointer none]) (h:= ?_)
  (try simp only [Act.put,zD,zE,zF])
  refine nO (i:=11) (by kernel_rfl) rfl (fun K' hK=> ?_);go_simp;have B3:=B2.alloc B2.size (.cells #[.pointer (some ⟨p',0,none⟩),.pointer none] 167);refine hK.out _ _ (fun _ _=>B3) ?_;clear hK K'
  (try simp only [Act.put,zD,zE,zF])
  refine nO (i:=12) (by kernel_rfl) rfl (fun K' hK=> ?_);go_simp;refine hK.out _ _ (fun _ _=>B3) ?_;clear hK K'
  (try simp only [Act.put,zD,zE,zF])
  refine nD (by kernel_rfl) ?_ _;clear hb hb2 B0 B1;have HB2:=LH B2;have HB3:=LH B3;clear B2 B3;go_wp2_with fail;go_ret;refine⟨V2.heap.size,footP V2.heap.size F1,rfl,⟨h1,h2,HF.out,p',F1,rfl,.inl ⟨rfl,h16,heap_alloc_new V2 _,hd2.out.below ((Below.refl _ _).alloc (Nat.le_refl _) _)⟩⟩,?_,HB3.out⟩;rintro q (rfl|hq)
  ·exact HB2.out.size
  ·exact hF2.out q hq
 ·skip
  have H:=LH hh;have Z:=LH (lB hh);have HD:=LH hd;clear hh hd hf
  go_enter Tryz.func71,Tryz.ntmps71
  go_upto_region 3 with fail;refine wp_region_N (fun W=>Below w.heap.size w W) [] (by kernel_rfl) (Below.drew (Below.refl _ _)) (fun hHeld=> ?_);refine nP 0 (.pointer (some ⟨g,0,none⟩)) (h:= ?_)
  (try simp only [Act.put,zD,zE,zF])
  refine nP 1 (.pointer (some ⟨g,0,none⟩)) (h:= ?_)
  (try simp only [Act.put,zD,zE,zF])
  refine nP 2 (.pointer (some ⟨g,0,none⟩)) (h:= ?_)
  (try simp only [Act.put,zD,zE,zF])
  refine nT 3 (.pointer none) (y:=Or.inl ⟨by rfl,fun W hW=>by have q1:=bC ((hW.block g Z.out).trans H.out);go_simp⟩) (s:=hHeld) (h:= ?_)
  (try simp only [Act.put,zD,zE,zF])
  refine nP 5 (.pointer (some ⟨g,0,none⟩)) (h:= ?_)
  (try simp only [Act.put,zD,zE,zF])
  refine nP 6 (.pointer (some ⟨g,0,none⟩)) (h:= ?_)
  (try simp only [Act.put,zD,zE,zF])
  refine nP 7 (.pointer (some ⟨g,1,none⟩)) (h:= ?_)
  (try simp only [Act.put,zD,zE,zF])
  refine nT 8 (.pointer (some ⟨p,0,none⟩)) (y:=Or.inl ⟨by rfl,fun W hW=>by have q1:=bC ((hW.block g Z.out).trans H.out);go_simp⟩) (s:=hHeld) (h:= ?_)
  (try simp only [Act.put,zD,zE,zF])
  have B0:=hHeld;clear hHeld;generalize w.drew=V0 at B0⊢;refine nO (i:=4) (by kernel_rfl) rfl (fun K' hK=> ?_);go_simp;refine(dense_Clone_nil _).mono ?_;rintro e V1 ⟨rfl,hb⟩;have B1:=B0.trans (hb.mono B0.size);refine hK.out _ _ (fun _ _=>B1) ?_;clear hK K'
  (try simp only [Act.put,zD,zE,zF])
  refine nO (i:=9) (by kernel_rfl) rfl (fun K' hK=> ?_);go_simp;refine(probe_Clone _ p l r F0 (HD.out.keep fun q hq=>B1.block q (HD.out.lt q hq))).mono ?_;rintro e V2 ⟨p',F1,rfl,hd1,hF1,hb2⟩;have hd2:=LH hd1;have hF2:=LH (fun q hq=>Nat.le_trans B1.size (hF1 q hq));clear hd1 hF1;have B2:=B1.trans (hb2.mono B1.size);refine hK.out _ _ (fun _ _=>B2) ?_;clear hK K'
  (try simp only [Act.put,zD,zE,zF])
  refine nP 10 (.agg #[.pointer none,.pointer (some ⟨p',0,none⟩)]) (h:= ?_)
  (try simp only [Act.put,zD,zE,zF])
  refine nO (i:=11) (by kernel_rfl) rfl (fun K' hK=> ?_);go_simp;have B3:=B2.alloc B2.size (.cells #[.pointer none,.pointer (some ⟨p',0,none⟩)] 167);refine hK.out _ _ (fun _ _=>B3) ?_;clear hK K'
  (try simp only [Act.put,zD,zE,zF])
  refine nO (i:=12) (by kernel_rfl) rfl (fun K' hK=> ?_);go_simp;refine hK.out _ _ (fun _ _=>B3) ?_;clear hK K'
  (try simp only [Act.put,zD,zE,zF])
  refine nD (by kernel_rfl) ?_ _;clear hb hb2 B0 B1;have HB2:=LH B2;have HB3:=LH B3;clear B2 B3;go_wp2_with fail;go_ret;refine⟨V2.heap.size,footP V2.heap.size F1,rfl,⟨h1,h2,HF.out,p',F1,rfl,.inr ⟨rfl,heap_alloc_new V2 _,hd2.out.below ((Below.refl _ _).alloc (Nat.le_refl _) _)⟩⟩,?_,HB3.out⟩;rintro q (rfl|hq)
  ·exact HB2.out.size
  ·exact hF2.out q hq
theorem digest_Clone (w:World) (g K l:Nat) (k:Int) (r:List Nd) (F:Nat→Prop) (h:DigAt w g K l k r F) :Calls Tryz.prog 35 #[.pointer (some ⟨g,0,none⟩)] w fun e w'=>
 ∃g' F',e=.returned (.pointer (some ⟨g',0,none⟩))∧DigAt w' g' K l k r F'∧(∀b,F' b→w.heap.size≤b)∧Below w.heap.size w w':=by
 obtain⟨hk1,hk2,p,F0,_,hh,hd⟩:=h;have H:=LH hh;have Z:=LH (lB hh);have HD:=LH hd;clear hh hd
 go_enter Tryz.func35,Tryz.ntmps35
 go_upto_region 3 with fail;refine wp_region_N (fun W=>Below w.heap.size w W) [] (by kernel_rfl) (Below.drew (Below.refl _ _)) (fun hHeld=> ?_);refine nP 0 (.pointer (some ⟨g,0,none⟩)) (h:= ?_)
 (try simp only [Act.put,zD,zE,zF])
 refine nP 1 (.pointer (some ⟨g,0,none⟩)) (h:= ?_)
 (try simp only [Act.put,zD,zE,zF])
 refine nP 2 (.pointer (some ⟨g,0,none⟩)) (h:= ?_)
 (try simp only [Act.put,zD,zE,zF])
 refine nT 3 (.agg #[.int .i64 k]) (y:=Or.inl ⟨by rfl,fun W hW=>by have q1:=bC ((hW.block g Z.out).trans H.out);go_simp⟩) (s:=hHeld) (h:= ?_)
 (try simp only [Act.put,zD,zE,zF])
 refine nP 4 (.pointer (some ⟨g,0,none⟩)) (h:= ?_)
 (try simp only [Act.put,zD,zE,zF])
 refine nP 5 (.pointer (some ⟨g,0,none⟩)) (h:= ?_)
 (try simp only [Act.put,zD,zE,zF])
 refine nP 6 (.pointer (some ⟨g,1,none⟩)) (h:= ?_)
 (try simp only [Act.put,zD,zE,zF])
 refine nP 7 (.pointer (some ⟨g,1,none⟩)) (h:= ?_)
 (try simp only [Act.put,zD,zE,zF])
 refine nT 8 (.pointer (some ⟨p,0,none⟩)) (y:=Or.inl ⟨by rfl,fun W hW=>by have q1:=bC ((hW.block g Z.out).trans H.out);go_simp⟩) (s:=hHeld) (h:= ?_)
 (try simp only [Act.put,zD,zE,zF])
 have B0:=hHeld;clear hHeld;generalize w.drew=V0 at B0⊢;refine nO (i:=9) (by kernel_rfl) rfl (fun K' hK=> ?_);go_simp;refine(pool_Clone _ p K l r F0 (HD.out.keep fun q hq=>B0.block q (HD.out.lt q hq))).mono ?_;rintro e V1 ⟨p',F1,rfl,hd1,hF1,hb⟩;have B1:=B0.trans (hb.mono B0.size);have hd2:=LH hd1;have hF2:=LH (fun q hq=>Nat.le_trans B0.size (hF1 q hq));clear hd1 hF1;refine hK.out _ _ (fun _ _=>B1) ?_;clear hK K'
 (try simp only [Act.put,zD,zE,zF])
 refine nP 10 (.agg #[.pointer (some ⟨p',0,none⟩)]) (h:= ?_)
 (try simp only [Act.put,zD,zE,zF])
 refine nP 11 (.agg #[.int .i64 k,.pointer (some ⟨p',0,none⟩)]) (h:= ?_)
 (try simp only [Act.put,zD,zE,zF])
 refine nO (i:=12) (by kernel_rfl) rfl (fun K' hK=> ?_);go_simp;have B3:=B1.alloc B1.size (.cells #[.int .i64 k,.pointer (some ⟨p',0,none⟩)] 118);refine hK.out _ _ (fun _ _=>B3) ?_;clear hK K'
 (try simp only [Act.put,zD,zE,zF])
 refine nO (i:=13) (by kernel_rfl) rfl (fun K' hK=> ?_);go_simp;refine hK.out _ _ (fun _ _=>B3) ?_;clear hK K'
 (try simp only [Act.put,zD,zE,zF])
 refine nD (by kernel_rfl) ?_ _;have HB2:=LH B1;have HB3:=LH B3;clear hb B0 B1 B3;go_wp2_with fail;go_ret;refine⟨V1.heap.size,footP V1.heap.size F1,rfl,⟨hk1,hk2,p',F1,rfl,heap_alloc_new V1 _,hd2.out.below ((Below.refl _ _).alloc (Nat.le_refl _) _)⟩,?_,HB3.out⟩;rintro q (rfl|hq)
 ·exact HB2.out.size
 ·exact hF2.out q hq
def readyS (s:Sen) :Bool:= !s.sent && (decide (s.heard=s.p.kids) || decide (s.p.wait≤s.ti))
def sentS (s:Sen) :Sen:={s with sent:=true}
def tickS (s:Sen) :Sen:={s with ti:=s.ti+1}
def tickedS (s:Sen) :Sen:=if s.ti<s.p.wait then tickS s else s
theorem sensor_Ready (w:World) (g dg:Nat) (s:Sen) (h:SenAt w g dg s) :Calls Tryz.prog 66 #[.pointer (some ⟨g,0,none⟩)] w fun e w'=>e=.returned (.bool (readyS s))∧Below w.heap.size w w':=by
 obtain⟨l,k,kd,⟨me,kids,wait⟩,ep,ti,heard,cover,sent⟩:=s;have cc:=bC h;have cf:=bF h;have zb:=lB h;unfold readyS;dsimp only at*;clear h
 cases sent
 ·by_cases h1:heard=kids
  ·have h1': ((heard:Int) == (kids:Int)) =true:=beq_iff_eq.2 (by omega)
   have hd:decide (heard=kids) =true:=by simpa using h1
   rw [hd];clear h1 hd
   go_enter Tryz.func66,Tryz.ntmps66
   go_upto_region 1 with fail;refine rX (by kernel_rfl) (by kernel_rfl) ?_
   repeat (go_big_quiet_step (fail))
   refine wpQuiet_nil ?_;intro w1 hb1;replace hb1:=bX hb1;have B1:Below w.heap.size w w1:=Below.then_ bE hb1;have s1:=B1.size;go_wp2_with fail;go_ret;exact⟨rfl,B1⟩
  ·have h1': ((heard:Int) == (kids:Int)) =false:=by simp;omega
   have hd:decide (heard=kids) =false:=by simpa using h1
   rw [hd];clear h1 hd
   go_enter Tryz.func66,Tryz.ntmps66
   go_upto_region 1 with fail;refine rX (by kernel_rfl) (by kernel_rfl) ?_
   repeat (go_big_quiet_step (fail))
   refine wpQuiet_nil ?_;intro w1 hb1;replace hb1:=bX hb1;have B1:Below w.heap.size w w1:=Below.then_ bE hb1;have s1:=B1.size;go_wp2_with fail;go_ret;exact⟨rfl,B1⟩
 ·go_enter Tryz.func66,Tryz.ntmps66
  go_upto_region 1 with fail;refine rX (by kernel_rfl) (by kernel_rfl) ?_
  repeat (go_big_quiet_step (fail))
  refine wpQuiet_nil ?_;intro w1 hb1;replace hb1:=bX hb1;have B1:Below w.heap.size w w1:=Below.then_ bE hb1;have s1:=B1.size;go_wp2_with fail;go_ret;exact⟨rfl,B1⟩
theorem SenAt.toSent {w:World} {g dg:Nat} {s:Sen} (h:SenAt w g dg s) :SenAt (w.setCell ⟨g,10,none⟩ (.bool true)) g dg (sentS s):=zH (i:=10) h _
theorem SensAt.set {w:World} {g K l o dg:Nat} {s s':Sen} {r:List Nd} {F F0:Nat→Prop} {u:Value} (hF:F=footP g F0) (h1:SenAt (w.setCell ⟨g,o,none⟩ u) g dg s') (h2:SenAt w g dg s) (h3:s'.l=l) (h4:s'.kd=K) (h5:DigAt w dg K l s'.k r F0) (h6: ¬F0 g) :SensAt (w.setCell ⟨g,o,none⟩ u) g K l s' r F:=
 ⟨dg,F0,hF,h1,h3,h4,h5.keep fun b hb=>Below.heap_setCell _ _ _ _ (by rintro rfl;exact h6 hb),h6⟩
def DigestPost (K l:Nat) (k:Int) (r:List Nd) (w:World) (e:Ending) (w':World) :Prop:=
 ∃g' F',e=.returned (.pointer (some ⟨g',0,none⟩))∧DigAt w' g' K l k r F'∧(∀b,F' b→w.heap.size≤b)∧Below w.heap.size w w'
theorem sensor_Digest (w:World) (g K l:Nat) (s:Sen) (r:List Nd) (F:Nat→Prop) (h:SensAt w g K l s r F) :Calls Tryz.prog 43 #[.pointer (some ⟨g,0,none⟩)] w (DigestPost K l s.k r w):=by
 obtain⟨dg,F0,hF,h1,h2,h3,h4,h5⟩:=h;have cc:=bC h1;have cf:=bF h1;have zb:=lB h1;have HC:=LH (digest_Clone w dg K l s.k r F0 h4);unfold DigestPost;clear h1 h2 h3 h4 h5 hF
 go_enter Tryz.func43,Tryz.ntmps43
 go_wp2_with fail;refine HC.out.mono ?_;rintro e w1 ⟨g',F',rfl,hd,hF1,hb1⟩;have HD:=LH hd;have HF:=LH hF1;clear hd hF1;go_wp2_with fail;go_ret;exact⟨g',F',rfl,HD.out,HF.out,hb1⟩
def putErr (l:Nat) (s:Sen) (r:List Nd) (x c:Int) :Int:=if s.sent=true then 18 else insErr l r x c
def PutTo (l:Nat) (s:Sen) (r:List Nd) (x c:Int) (r':List Nd) :Prop:=(s.sent=true∧r'=r)∨(s.sent=false∧InsTo l s.k r x c r')
theorem SensAt.dig {w w':World} {g K l dg:Nat} {s:Sen} {r:List Nd} {F F0:Nat→Prop} (hF:F=footP g F0) (h1:SenAt w g dg s) (h2:s.l=l) (h3:s.kd=K) (h5: ¬F0 g) (h:DigTo w dg K l s.k r F0 w') :SensTo w g K l s r F w':=by
 obtain⟨F',d1,d2,d3⟩:=h;subst hF;have hg: ¬F' g:=fun hf=>(d3 g hf).elim h5 fun h=>by have:=lB h1;omega
 refine⟨footP g F',⟨dg,F',rfl,d2.keep h1 h5,h2,h3,d1,hg⟩,d2.mono fun b _ hb=>.inr hb,?_⟩;rintro b (rfl|hb)
 ·exact .inl (.inl rfl)
 ·exact(d3 b hb).imp .inr id
def SPutPost (g K l:Nat) (s:Sen) (r:List Nd) (F:Nat→Prop) (x c:Int) (w:World) (e:Ending) (w':World) :Prop:=
 ∃r',e=.returned (.int .i64 (putErr l s r x c))∧PutTo l s r x c r'∧SensTo w g K l s r' F w'
theorem SPutPost.of {g K l:Nat} {s:Sen} {r r':List Nd} {F:Nat→Prop} {x c:Int} {w w':World} (h:PutTo l s r x c r') (h2:SensTo w g K l s r' F w') :SPutPost g K l s r F x c w (.returned (.int .i64 (putErr l s r x c))) w':=⟨r',rfl,h,h2⟩
theorem sensor_Put (w:World) (g K l:Nat) (s:Sen) (r:List Nd) (F:Nat→Prop) (h:SensAt w g K l s r F) (hn:r.length≤67108864) (x c:Int) :
 Calls Tryz.prog 70 #[.pointer (some ⟨g,0,none⟩),.int .i64 x,.int .i64 c] w (SPutPost g K l s r F x c w):=by
 have HS:=LH h;obtain⟨dg,F0,hF,h1,h2,h3,h4,h5⟩:=h;have cc:=bC h1;have cf:=bF h1;have zb:=lB h1;have HI:=LH (digest_Insert w dg K l s.k r F0 h4 hn x c);have HX:Hid (∀W r',DigTo w dg K l s.k r' F0 W→SensTo w g K l s r' F W):=LH fun W r' hd=>SensAt.dig hF h1 h2 h3 h5 hd;have HP:Hid (∀W r',PutTo l s r x c r'→SensTo w g K l s r' F W→SPutPost g K l s r F x c w (.returned (.int .i64 (putErr l s r x c))) W):=LH fun W r' h1 h2=>.of h1 h2;have HP0:Hid (s.sent=true→putErr l s r x c=18∧PutTo l s r x c r):=LH fun h=>⟨by unfold putErr;rw [if_pos h],.inl ⟨h,rfl⟩⟩;have HP1:Hid (s.sent=false→putErr l s r x c=insErr l r x c∧∀r',InsTo l s.k r x c r'→PutTo l s r x c r'):=LH fun h=>⟨by unfold putErr;rw [if_neg (by simp [h])],fun r' h2=>.inr ⟨h,h2⟩⟩;generalize insErr l r x c=n at HI HP1;generalize putErr l s r x c=n' at HP HP0 HP1;clear h1 h2 h3 h4 h5 hF;obtain⟨b,hb⟩ : ∃b,b=s.sent:=⟨_,rfl⟩;rw [←hb] at cc HP0 HP1;clear hb
 cases b
 ·go_enter Tryz.func70,Tryz.ntmps70
  go_wp2_with fail;refine HI.out.mono ?_;rintro e w1 ⟨r',rfl,hi,hd⟩;have HD:=LH (HX.out _ _ hd);have HI2:=LH hi;clear hd hi;go_wp2_with fail;have HF:=LH (HP.out _ r' ((HP1.out trivial).2 r' HI2.out) HD.out);rw [(HP1.out trivial).1] at HF;exact bR (v:=.int .i64 n) (by simp only [results,Tryz.results70];go_simp) rfl HF.out
 ·go_enter Tryz.func70,Tryz.ntmps70
  go_wp2_with fail;have HF:=LH (HP.out _ r (HP0.out trivial).2 (.below HS.out (w':=w) bE));rw [(HP0.out trivial).1] at HF;exact bR (v:=.int .i64 18) (by simp only [results,Tryz.results70];go_simp) rfl HF.out
end Go.Proofs.YtlgnakobjkhmhaaGreatDoor
