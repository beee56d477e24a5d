/-
  Texts of this proof, one behind the other: Ref11A, Ref11B, Ref06S, Ref06T, FoldS, Ref06F, Ref07A, Ref07B, Ref11C, Ref11D, Press, Zone, Ref12R, Ref13C, Ref13I, Ref13J, Ref13D, Ref24R.
-/
import Derived.Deep.LoopGhost
import Derived.Test.YtmdidmclfbfmiaaGreatDoorS1
import Derived.Test.YtmdidmclfbfmiaaGreatDoorS2
import Derived.Test.YtmdidmclfbfmiaaGreatDoorS3
import Derived.Test.YtmdidmclfbfmiaaGreatDoorS4
import Derived.Test.YtmdidmclfbfmiaaGreatDoorS5
import Derived.Test.YtmdidmclfbfmiaaGreatDoorS6
set_option linter.unusedVariables false
set_option linter.unusedSimpArgs false
set_option maxRecDepth 100000
set_option maxHeartbeats 16000000
namespace Go.Proofs.YtmdidmclfbfmiaaGreatDoor
open Go.ChangeShapes Go.WideShapes Go.ChangeAt Go.RowKit

def pickZ (c:Prop) [Decidable c] (x y:Option Addr) :Option Addr:=if c then x else y
theorem slice_pickZ (c:Prop) [Decidable c] (x y:Option Addr) (n m:Nat) :Value.slice (if c then x else y) n m=Value.slice (pickZ c x y) n m:=rfl
def WithPost (L:List Int) (id:Int) (w:World) (e:Ending) (w':World) :Prop:=
 ∃(A':Option Addr) (cap':Nat) (L':List Int),e=.returned (.slice A' L'.length cap')∧L'.length≤cap'∧cap'≤maxLen∧((A'=none∧cap'=0)∨∃b off,A'=some ⟨b,off,none⟩)∧Sl w' w'.heap.size encZ A' L'∧(∀z,z∈L'↔z∈L∨z=id)∧(L.Pairwise leA→L'.Pairwise leA)∧L'.length≤L.length+1∧Below w.heap.size w w'
section
attribute [local go_sem] slice_pickZ
end
def putAt (L:List Nd) (q:Nat) (x:Nd) :List Nd:=(L.take q ++ [x]) ++ L.drop q
section
attribute [local go_sem] slice_pickZ
end
def SortNPost (l:List Nd) (w:World) (e:Ending) (w':World) :Prop:=∃v S,e=.returned v∧Own w' w.heap.size 216 encN v S∧S.Perm l∧(S.Pairwise fun a b=>a.1≤b.1)∧Below w.heap.size w w'

def BumpF (w2:World) (g oo n co:Nat) (L:List Nd) (y:Nd) (b o:Nat) (x1 x2:Int) (W:World) :Prop:=
 Own W w2.heap.size 216 encN (.slice (some ⟨g,oo,none⟩) n co) (L ++ [y])∧W.cell? ⟨b,o,none⟩ =some (.int .i64 x1)∧W.cell? ⟨b,o+1,none⟩ =some (.int .i64 x2)∧b<w2.heap.size∧Below w2.heap.size w2 W
def Fold6Post (l:List Nd) (w:World) (e:Ending) (w':World) :Prop:=∃v,e=.returned (.tuple #[v,.bool true])∧Own w' w.heap.size 216 encN v (addAll [] l)∧Below w.heap.size w w'
def RollPost (R:List Nd) (w:World) (e:Ending) (w':World) :Prop:=∃v,e=.returned (.tuple #[v,.bool true])∧Own w' w.heap.size 216 encN v R∧Below w.heap.size w w'
def StorePost (l:Nat) (R:List Nd) (n:Int) (w:World) (e:Ending) (w':World) :Prop:=∃A c,e=.returned (.tuple #[.agg #[.int .i64 l,.slice A R.length c],.int .i64 n])∧Own w' w.heap.size 216 encN (.slice A R.length c) R∧Below w.heap.size w w'
def butR (id:Int) (L:List Nd) :List Nd:=L.filter fun x=>x.1 != id
structure SlP (w:World) (A:Option Addr) (cap:Nat) (L:List Int) :Prop where
 s:Sl w w.heap.size encZ A L
 c1:L.length≤cap
 c2:cap≤maxLen
 o: (A=none∧cap=0)∨∃b off,A=some ⟨b,off,none⟩
def ParPost (r:List Nd) (w:World) (e:Ending) (w':World) :Prop:=
 ∃(A':Option Addr) (cap':Nat) (L:List Int),e=.returned (.slice A' L.length cap')∧SlP w' A' cap' L∧(∀z∈L,z≤9223372036854775807)∧(∀x∈r,1<x.1→x.1 / 2∈L)∧L.Pairwise leA∧L.length≤r.length∧Below w.heap.size w w'
def First11 (l:Nat) (most:Int) (r:List Nd) (w:World) (e:Ending) (w':World) :Prop:=
 ∃(id:Int) (ok:Bool),e=.returned (.tuple #[.int .i64 id,.bool ok])∧(ok=true→FirstIs l most r id)∧(ok=false→∀p,readyR l r p most=false)∧Below w.heap.size w w'
structure ReadyF (l:Nat) (r:List Nd) (p:Int) :Prop where
 p1:1≤p
 p2:p<281474976710656
 node:isNode l p=true
 c1:1≤pairR r p
 s:sumR (delR (delR r (2*p)) (2*p+1)) +pairR r p=sumR r
theorem deep_le {l:Nat} {r:List Nd} (h:Fits l r) (hl:l≤48) :deepR r≤48*r.length:=by
 have h1: ∀x∈r,x.1.toNat.log2≤48:=fun x hx=>by
  have h2:=h.lt x hx;have h3:=(h.roll.2 x hx).1
  have h4:x.1.toNat<2^ (l+1):=by
   have: ((2^ (l+1) :Nat) :Int) =2*2^l:=by push_cast;omega
   omega
  have:=(Nat.log2_lt (by omega)).2 h4;omega
 clear h;unfold deepR
 induction r with
 |nil=>simp
 |cons x r ih=>
  have:=ih fun y hy=>h1 y (by simp [hy]);have:=h1 x (by simp);simp only [List.map_cons,List.sum_cons,List.length_cons];omega
structure RunS (w:World) (ga gm g K l nb:Nat) (F:Nat→Prop) (s:List Nd) (L:List Int) (c:Nat) (Fp FA:Nat→Prop) (W:World) :Prop where
 a:AgAt W ga gm L FA
 p:PoolAt W g K l s Fp
 apart: ∀b,Fp b→¬FA b
 n:W.heap[nb]? =some (.cells #[.int .i64 c] 3 (0,0))
 np: ¬Fp nb
 na: ¬FA nb
 fa: ∀b,FA b→w.heap.size≤b
 gp:Grow w F Fp
 t:Turn (fun b=>F b∨b=nb) w W
section
variable {w:World} {ga gm g K l nb:Nat} {F:Nat→Prop} {s s':List Nd} {L L':List Int} {c:Nat} {Fp FA FA':Nat→Prop} {W W':World}
theorem RunS.below (h:RunS w ga gm g K l nb F s L c Fp FA W) (hb:Below W.heap.size W W') :RunS w ga gm g K l nb F s L c Fp FA W':=
 ⟨h.a.below hb,h.p.below hb,h.apart,bB h.n hb,h.np,h.na,h.fa,h.gp,h.t.more hb⟩
theorem RunS.ag (h:RunS w ga gm g K l nb F s L c Fp FA W) (ha:AgAt W' ga gm L' FA') (ht:Turn FA W W') (hg:Grow W FA FA') :RunS w ga gm g K l nb F s L' c Fp FA' W':=by
 have lp:=h.p.lt;refine⟨ha,h.p.keep fun b hb=>ht.block b (lp b hb) (h.apart b hb),fun b hb hf=> ?_,ht.keep h.n h.na,h.np,fun hf=> ?_,fun b hb=> ?_,h.gp,?_⟩
 ·rcases hg b hf with hf|hf
  ·exact h.apart b hb hf
  ·have:=lp b hb;omega
 ·rcases hg _ hf with hf|hf
  ·exact h.na hf
  ·have:=lB h.n;omega
 ·rcases hg b hb with hf|hf
  ·exact h.fa b hf
  ·exact Nat.le_trans h.t.size hf
 ·exact h.t.trans ht fun b hb=>.inr (h.fa b hb)
theorem RunS.pool (h:RunS w ga gm g K l nb F s L c Fp FA W) (hp:PoolTo W g K l s' Fp W') : ∃Fp',RunS w ga gm g K l nb F s' L c Fp' FA W':=by
 obtain⟨Fp',h1,h2,h3⟩:=hp;have la:=h.a.lt;refine⟨Fp',h.a.keep fun b hb=>h2.block b (la b hb) fun hf=>h.apart b hf hb,h1,fun b hb hf=> ?_,h2.keep h.n h.np,fun hf=> ?_,h.na,h.fa,h.gp.trans h3 h.t.size,?_⟩
 ·rcases h3 b hb with hb|hb
  ·exact h.apart b hb hf
  ·have:=la b hf;omega
 ·rcases h3 _ hf with hf|hf
  ·exact h.np hf
  ·have:=lB h.n;omega
 ·exact h.t.trans h2 fun b hb=>(h.gp b hb).imp .inl id
theorem RunS.count (h:RunS w ga gm g K l nb F s L c Fp FA W) :RunS w ga gm g K l nb F s L (c+1) Fp FA (W.setCell ⟨nb,0,none⟩ (.int .i64 (c+1:Nat))):=by
 have k: ∀b,b≠nb→(W.setCell ⟨nb,0,none⟩ (.int .i64 (c+1:Nat))).heap[b]? =W.heap[b]? :=fun b hb=>Below.heap_setCell _ _ _ _ (by simpa using hb);refine⟨h.a.keep fun b hb=>k b (by rintro rfl;exact h.na hb),h.p.keep fun b hb=>k b (by rintro rfl;exact h.np hb),h.apart,?_,h.np,h.na,h.fa,h.gp,h.t.setCell (.inl (.inr rfl)) _⟩;simp [World.setCell,Array.getElem?_modify,h.n]
end
theorem press_Run1 (W:World) (nb c:Nat) (id:Int) (h:W.heap[nb]? =some (.cells #[.int .i64 c] 3 (0,0))) (hc:c≤4611686018427387904) :
 Calls Tryz.prog 263 #[.int .i64 id,.pointer (some ⟨nb,0,none⟩)] W fun e w'=>e=.returned (.tuple #[])∧w'=W.setCell ⟨nb,0,none⟩ (.int .i64 (c+1:Nat)):=by
 have c0:=bC h;have f0:=bF h;have z0:=lB h;clear h
 go_enter Tryz.func263,Tryz.ntmps263
 go_wp2_with fail
 go_end0
 exact⟨rfl,by congr 1⟩
theorem enters_Run1: ∀args W,(callFunc 263 args).run Tryz.prog W=.ok (.enter 263 args) W:=enters_of Tryz.func263 (by kernel_rfl) rfl
def RunPost (g K l:Nat) (r:List Nd) (most:Int) (nb:Nat) (F:Nat→Prop) (w:World) (e:Ending) (w':World) :Prop:=
 ∃(ps:List Int) (s:List Nd) (Fp:Nat→Prop),e=.returned (.tuple #[])∧RunTo l most r ps s∧ps.length≤48*r.length∧PoolAt w' g K l s Fp∧Grow w F Fp∧¬Fp nb∧Turn (fun b=>F b∨b=nb) w w'∧w'.heap[nb]? =some (.cells #[.int .i64 ps.length] 3 (0,0))
theorem press_run (w:World) (g K l:Nat) (r:List Nd) (F:Nat→Prop) (hP:PoolAt w g K l r F) (hr:r.length≤67108864) (k:Int) (h1:1≤k) (h2:k≤1048576) (nb:Nat) (hn:w.heap[nb]? =some (.cells #[.int .i64 0] 3 (0,0))) (hnF: ¬F nb) :
 Calls Tryz.prog 262 #[.pointer (some ⟨g,0,none⟩),.int .i64 k,.func (.func 263) #[] #[.pointer (some ⟨nb,0,none⟩)]] w (RunPost g K l r (sumR r / k) nb F w):=by
 have eg:=enters_Run1;have hs0:=sumR_nonneg hP.fits.roll;have hs1:=hP.fits.sum;have hll:=hP.l_le;have hdl:=deep_le hP.fits hll.2;have HRl:=LH hP.fits.roll;have HP:=LH hP;have HT:=LH (fun W h=>pool_Total W g K l r F h);have HC:=LH (fun W=>fold_Cap W (sumR r) k hs0 (by omega) h1 (by omega));have HPa:=LH (fun W h=>fold_Parents W g K l r F h hr);generalize sumR r / k=most at HC⊢;generalize sumR r=n at HC HT hs0 hs1;have HN:=LH hn;have HNF:=LH hnF;clear hP hs0 hs1 hn hnF
 go_enter Tryz.func262,Tryz.ntmps262
 go_wp2_with fail;refine(HT.out _ HP.out).mono ?_;rintro e w1 ⟨rfl,hb1⟩;have B1:=LH hb1;clear hb1;go_wp2_with fail;refine(HC.out _).mono ?_;rintro e w2 ⟨rfl,hb2⟩;have B2:=LH (Below.then_ B1.out hb2);clear hb2;go_wp2_with fail;refine(HPa.out _ (HP.out.below B2.out)).mono ?_;rintro e w3 ⟨v,O,rfl,ho,hd,hol,hb3⟩;obtain⟨A,cap,rfl,_⟩:=ho.form;have S3:=LH ho.sl
 have hO49: ∀x∈O,x≤9223372036854775807:=fun x hx=>by
  have h3:=(hd.mem x).2 (.inl hx);obtain⟨y,hy,rfl⟩:=List.mem_map.1 ((putAll_mem _ _).1 h3).2;have h4:=isNode_lt (HP.out.fits.nodes hll y hy);have h5:=pow_48 hll.2;omega
 have hO49': ∀x∈O,x≤562949953421312:=fun x hx=>by
  have h3:=(hd.mem x).2 (.inl hx);obtain⟨y,hy,rfl⟩:=List.mem_map.1 ((putAll_mem _ _).1 h3).2;have h4:=isNode_lt (HP.out.fits.nodes hll y hy);have h5:=pow_48 hll.2;omega
 have hwt: ∀x∈r,1≤x.1 / 2→x.1 / 2∈putAll O:=fun x hx h3=>by
  refine(putAll_mem _ _).2 ⟨h3,?_⟩;have:x.1 / 2∈putAll (halves r):=(putAll_mem _ _).2 ⟨h3,List.mem_map.2 ⟨x,hx,rfl⟩⟩;rcases (hd.mem _).1 this with h|h
  ·exact h
  ·simp at h
 have hlenO:=putAll_len O;have HW:=LH (Waits.start (l:=l) (most:=most) hwt HRl.out);have HWt:=LH (putAll_wait O);have HV:Hid (∀x∈putAll O,x≤562949953421312):=LH fun x hx=>hO49' x ((putAll_mem _ _).1 hx).2;have HNw:=LH (fun W h=>fold_New W A cap O h hO49 (by omega));have B3:=LH (Below.then_ B2.out hb3);clear ho hd hb3 hO49 hO49' hwt;generalize putAll O=L0 at HW HWt HV HNw hlenO;go_wp2_with fail;refine(HNw.out _ S3.out).mono ?_;rintro e w4 ⟨ga,gm,FA,rfl,hA4,hF4,hb4⟩;have B4:=LH (Below.then_ B3.out hb4)
 have R4:Hid (RunS w ga gm g K l nb F r L0 0 F FA w4):=LH
  ⟨hA4,HP.out.below B4.out,fun b hb hf=>by have:=HP.out.lt b hb;have:=hF4 b hf;have:=B3.out.size;omega,bB HN.out B4.out,HNF.out,fun hf=>by have:=lB HN.out;have:=hF4 nb hf;have:=B3.out.size;omega,
   fun b hb=>Nat.le_trans B3.out.size (hF4 b hb),Grow.refl,.of_below B4.out⟩
 clear hA4 hF4 hb4 S3 HNw;have hn0:4*deepR r+L0.length≤20000000000:=by omega
 have hfR:=HP.out.fits;go_wp2_with fail
 go_loopg [] 20000000000 (fun kk wr=>∃(s:List Nd) (L:List Int) (ps:List Int) (Fp FA:Nat→Prop),RunS w ga gm g K l nb F s L ps.length Fp FA wr∧WaitL L∧Waits l most s L∧(∀x∈L,x≤562949953421312)∧Folded l most r s∧(∀qs t,RunTo l most s qs t→RunTo l most r (ps ++ qs) t)∧ps.length+deepR s≤deepR r∧4*deepR s+L.length≤kk∧kk≤20000000000)
 case atStart=>exact⟨r,L0, [],F,FA,R4.out,HWt.out,HW.out,HV.out,.refl _,fun qs t h=>h,by simp,hn0,Nat.le_refl _⟩
 case round=>
  obtain⟨s,L,ps,Fp,FA,hR,hw,hW,hV,hFo,hTo,hdp,hk1,hk2⟩:=hrel;have R:=LH hR;have HWt:=LH hw;have HW:=LH hW;have HV:=LH hV;have HF:=LH hFo;have HTo:=LH hTo;have hfs:=hFo.fits hfR;have hls:=hFo.len hfR;obtain⟨Dm,hAS,_⟩:=hR.a;have HLn:=LH (ag_Len _ ga gm _ L Dm FA hAS);have HD:=LH hdp;clear hR hw hW hV hFo hTo hAS hdp;go_wp2_with fail;refine HLn.out.mono ?_;rintro e w5 ⟨rfl,hb5⟩;have R5:=LH (R.out.below hb5);clear hb5 R HLn
  cases L with
  |nil=>
   simp only [List.length_nil];have hE:=LH (HTo.out [] s (Waits.done HW.out));rw [List.append_nil] at hE;go_wp2_with fail
   go_end0
   have hd1:=HD.out;exact⟨ps,s,Fp,rfl,hE.out,by omega,R5.out.p,R5.out.gp,R5.out.np,R5.out.t,R5.out.n⟩
  |cons x L=>
   have hxL:x∉L:=(List.nodup_cons.1 HWt.out.once).1;have hpv: ∀y∈x :: L,1≤y∧y≤9223372036854775807:=fun y hy=>⟨HWt.out.pos y hy,by have:=HV.out y hy;omega⟩;have hx1:1≤x:=HWt.out.pos x (by simp);have hx2:x≤562949953421312:=HV.out x (by simp);have hlL:L.length+1+4*deepR s≤gk:=by simp only [List.length_cons] at hk1;omega
   have HPop:=LH (fun W h=>ag_Pop W ga gm x L FA h hxL hpv (by omega));have hl1: (x :: L).length=L.length+1:=by simp
   have hpl: (popH (x :: L)).length=L.length:=(popH_perm x L).length_eq;have HPW:=LH HWt.out.pop;have HPV:Hid (∀y∈popH (x :: L),1≤y∧y≤562949953421312):=LH fun y hy=>⟨HWt.out.pos y (List.mem_cons_of_mem _ ((popH_perm x L).mem_iff.1 hy)),HV.out y (List.mem_cons_of_mem _ ((popH_perm x L).mem_iff.1 hy))⟩;rw [hl1];clear hl1 hk1 hpv hxL;go_wp2_with fail;refine(HPop.out _ R5.out.a).mono ?_;rintro e w6 ⟨rfl,hA6,hT6⟩;have R6:=LH (R5.out.ag hA6 hT6 Grow.refl);clear hA6 hT6 R5;go_wp2_with fail;refine(fold_Ready _ g K l s Fp R6.out.p x most).mono ?_;rintro e w7 ⟨rfl,hb7⟩;have R7:=LH (R6.out.below hb7);clear hb7 R6
   cases hy:readyR l s x most
   ·have HSk:=LH (HW.out.skip hy)
    clear hy;generalize popH (x :: L) =M at HSk HPW HPV R7 hpl;go_wp2_with fail
    go_roundg (gk - 1)
    case measure=>omega
    case rel=>exact⟨s,M,ps,Fp,FA,R7.out,HPW.out,HSk.out,fun y hy=>(HPV.out y hy).2,HF.out,HTo.out,HD.out,by omega,by omega⟩
   ·have HFr:=LH (HW.out.first HWt.out hy)
    have HWf:=LH (HW.out.fold hfs.roll hy);have hdf:=deep_fold hfs.roll hy;have hkid:=kids_iff.1 (ready_iff.1 hy).1;have hx3:x<281474976710656:=by have:=pow_48 hll.2;omega
    have HDo:=LH (fun W h=>fold_Do W g K l s Fp h x most hy (by omega));have HFo:Hid (Folded l most r (foldR s x)):=LH (.step x HF.out hy)
    have HTo2:Hid (∀qs t,RunTo l most (foldR s x) qs t→RunTo l most r ((ps ++ [x]) ++ qs) t):=LH fun qs t h=>by
     have:=HTo.out _ _ (.step HFr.out h)
     simpa using this
    have hpl1: (ps ++ [x]).length=ps.length+1:=by simp
    have hd1:=HD.out;clear hkid hy HW HWt HF HTo HV;generalize foldR s x=s2 at HWf HDo HFo HTo2 hdf;generalize popH (x :: L) =M at HWf HPW HPV R7 hpl;go_wp2_with fail;refine(HDo.out _ R7.out.p).mono ?_;rintro e w8 ⟨⟨n8,rfl⟩,hp8⟩;obtain⟨Fp8,R8'⟩:=R7.out.pool hp8;have R8:=LH R8';clear R7 hp8 R8' HDo;go_wp2_with fail;refine(press_Run1 _ nb ps.length x R8.out.n (by omega)).mono ?_;rintro e w9 ⟨rfl,rfl⟩;have R9:=LH R8.out.count;generalize w8.setCell ⟨nb,0,none⟩ (.int .i64 (ps.length+1:Nat)) =w9 at R9⊢;clear R8;have HP1:=LH (fun W h=>ag_Put W ga gm M FA h (2*x) (by omega) (fun y hy=>⟨(HPV.out y hy).1,by have:=(HPV.out y hy).2;omega⟩) (by omega))
    have V1:Hid (∀y∈putW M (2*x),1≤y∧y≤562949953421312):=LH fun y hy=>by
     rcases (putW_mem _ _ _).1 hy with h| ⟨_,rfl⟩
     ·exact HPV.out y h
     ·exact⟨by omega,by omega⟩
    have W1:=LH (HPW.out.put (2*x));have L1:=putW_len M (2*x);go_wp2_with fail;refine(HP1.out _ R9.out.a).mono ?_;rintro e wa ⟨t1,F1,rfl,hA,hT,hG⟩;have RA:=LH (R9.out.ag hA hT hG);clear hA hT hG R9 HP1;generalize putW M (2*x) =M1 at RA V1 W1 L1 HWf;have HP2:=LH (fun W h=>ag_Put W ga gm M1 F1 h (2*x+1) (by omega) (fun y hy=>⟨(V1.out y hy).1,by have:=(V1.out y hy).2;omega⟩) (by omega))
    have V2:Hid (∀y∈putW M1 (2*x+1),1≤y∧y≤562949953421312):=LH fun y hy=>by
     rcases (putW_mem _ _ _).1 hy with h| ⟨_,rfl⟩
     ·exact V1.out y h
     ·exact⟨by omega,by omega⟩
    have W2:=LH (W1.out.put (2*x+1));have L2:=putW_len M1 (2*x+1);go_wp2_with fail;refine(HP2.out _ RA.out.a).mono ?_;rintro e wb ⟨t2,F2,rfl,hA,hT,hG⟩;have RB:=LH (RA.out.ag hA hT hG);clear hA hT hG RA HP2;generalize putW M1 (2*x+1) =M2 at RB V2 W2 L2 HWf;have HP3:=LH (fun W h=>ag_Put W ga gm M2 F2 h (x / 2) (by omega) (fun y hy=>⟨(V2.out y hy).1,by have:=(V2.out y hy).2;omega⟩) (by omega))
    have V3:Hid (∀y∈putW M2 (x / 2),1≤y∧y≤562949953421312):=LH fun y hy=>by
     rcases (putW_mem _ _ _).1 hy with h| ⟨_,rfl⟩
     ·exact V2.out y h
     ·exact⟨by omega,by omega⟩
    have W3:=LH (W2.out.put (x / 2));have L3:=putW_len M2 (x / 2);go_wp2_with fail;refine(HP3.out _ RB.out.a).mono ?_;rintro e wc ⟨t3,F3,rfl,hA,hT,hG⟩;have RC:=LH (RB.out.ag hA hT hG);clear hA hT hG RB HP3;generalize putW M2 (x / 2) =M3 at RC V3 W3 L3 HWf;go_wp2_with fail
    go_roundg (gk - 1)
    case measure=>omega
    case rel=>exact⟨s2,M3,ps ++ [x],Fp8,F3,by rw [hpl1];exact RC.out,W3.out,HWf.out,fun y hy=>(V3.out y hy).2,HFo.out,HTo2.out,by rw [hpl1];omega,by omega,by omega⟩
def PressPost (g K l:Nat) (r:List Nd) (most:Int) (F:Nat→Prop) (w:World) (e:Ending) (w':World) :Prop:=
 ∃(ps:List Int) (s:List Nd),e=.returned (.tuple #[.int .i64 ps.length,.int .i64 0])∧RunTo l most r ps s∧ps.length≤48*r.length∧PoolTo w g K l s F w'
theorem press_Run (w:World) (g K l:Nat) (r:List Nd) (F:Nat→Prop) (hP:PoolAt w g K l r F) (hr:r.length≤67108864) (k:Int) (h1:1≤k) (h2:k≤1048576) :
 Calls Tryz.prog 213 #[.pointer (some ⟨g,0,none⟩),.int .i64 k] w (PressPost g K l r (sumR r / k) F w):=by
 have HP:=LH hP;have HR:=LH (fun W h nb hn hf=>press_run W g K l r F h hr k h1 h2 nb hn hf);generalize sumR r / k=most at HR⊢;clear hP
 go_enter Tryz.func213,Tryz.ntmps213
 go_wp2_with fail;refine(press_wrong _ g k h1 h2).mono ?_;rintro e w1 ⟨rfl,hb1⟩;have B1:=LH (hb1.trans (((Below.refl w1.heap.size w1).alloc (Nat.le_refl _) (.cells #[.int .i64 0] 3)).mono hb1.size));have X1:=LH (heap_alloc_new w1 (.cells #[.int .i64 0] 3));have s1:=hb1.size;have P1:=LH (HP.out.below B1.out);clear hb1;have NF:Hid (¬F w1.heap.size):=LH fun hf=>by have:=HP.out.lt _ hf;omega
 go_wp2_with fail;refine(HR.out _ P1.out _ X1.out NF.out).mono ?_;rintro e w2 ⟨ps,s,Fp,rfl,hR,hpl,hP2,hG,_,hT,hn⟩
 have HE:Hid (RunTo l most r ps s∧ps.length≤48*r.length∧PoolTo w g K l s F w2):=by
  refine LH ⟨hR,hpl,Fp,hP2,?_,fun b hb=>(hG b hb).imp id fun h=>Nat.le_trans B1.out.size h⟩;refine⟨hT.os.trans B1.out.os,hT.tape.trans B1.out.tape,hT.output.trans B1.out.output,Nat.le_trans B1.out.size hT.size,fun b hb hf=> ?_⟩;rw [hT.block b (Nat.lt_of_lt_of_le hb B1.out.size) (by rintro(h|h);exact hf h;omega)];exact B1.out.block b hb
 have c2:=bC hn;have z2:=lB hn;clear hR hP2 hG hT hn hpl X1 P1 B1 HR;go_wp2_with fail
 go_ret2
 exact⟨ps,s,rfl,HE.out⟩
section
class Zone where
 n:Nat
 z:Nat→Prop
 up: ∀b,n≤b→z b
instance (priority:=low) zoneAll:Zone:=⟨0,fun _=>True,fun _ _=>trivial⟩
variable [Zone]
def SlZ {α:Type} {size:Nat} (w:World) (e:TypeId) (E:Enc α size) (A:Option Addr) (l:List α) :Prop:=
 Zone.n≤w.heap.size∧(l= []∨∃b off,A=some ⟨b,off,none⟩∧(TypeAt w b e∧Zone.z b)∧∀i x,l[i]? =some x→∀j u,(E.enc x)[j]? =some u→w.cell? ⟨b,off+i*size+j,none⟩ =some u)
section
variable {α:Type} {size:Nat} {w w':World} {e t:TypeId} {E:Enc α size} {A:Option Addr} {l:List α}
end
end
def Run12Post [Zone] (l:Nat) (most:Int) (r:List Nd) (w:World) (e:Ending) (w':World) :Prop:=
 ∃(ps:List Int) (s:List Nd) (A:Option Addr) (c:Nat) (Ap:Option Addr) (cp:Nat),e=.returned (.tuple #[.agg #[.int .i64 l,.slice A s.length c],.slice Ap ps.length cp])∧RunTo l most r ps s∧SlZ w' 216 encN A s∧Below w.heap.size w w'
structure RunR [Zone] (w:World) (l:Nat) (s:List Nd) (A:Option Addr) (c:Nat) (ps:List Int) (u:Value) (W:World) :Prop where
 x:W.heap[w.heap.size]? =some (.cells #[.int .i64 l,.slice A s.length c] 131 (0,0))
 y:W.heap[w.heap.size+1]? =some (.cells #[.int .i64 0,.slice none 0 0] 131 (0,0))
 sl:SlZ W 216 encN A s
 o:Own W (w.heap.size+2) 3 encZ u ps
 b:Below w.heap.size w W
 z:w.heap.size+2≤W.heap.size
def Comp13Post [Zone] (l:Nat) (k:Int) (r:List Nd) (w:World) (e:Ending) (w':World) :Prop:=
 ∃(ps:List Int) (s:List Nd) (A:Option Addr) (c:Nat),e=.returned (.tuple #[.agg #[.int .i64 k,.int .i64 l,.slice A s.length c],.int .i64 ps.length])∧RunTo l (sumR r / k) r ps s∧SlZ w' 216 encN A s∧Below w.heap.size w w'
def Ins13Post [Zone] (l:Nat) (k:Int) (r:List Nd) (x c:Int) (w:World) (e:Ending) (w':World) :Prop:=
 ∃(s:List Nd) (A:Option Addr) (cp:Nat),e=.returned (.tuple #[.agg #[.int .i64 k,.int .i64 l,.slice A s.length cp],.int .i64 (insErr l r x c)])∧InsTo l k r x c s∧SlZ w' 216 encN A s∧Below w.heap.size w w'
structure InsR [Zone] (w:World) (l:Nat) (k:Int) (s:List Nd) (A:Option Addr) (c:Nat) (W:World) :Prop where
 x:W.heap[w.heap.size]? =some (.cells #[.int .i64 k,.int .i64 l,.slice A s.length c] 133 (0,0))
 y:W.heap[w.heap.size+1]? =some (.cells #[.int .i64 0,.int .i64 0,.slice none 0 0] 133 (0,0))
 sl:SlZ W 216 encN A s
 b:Below w.heap.size w W
structure InsE [Zone] (w:World) (l:Nat) (k:Int) (s:List Nd) (A:Option Addr) (c:Nat) (W:World) :Prop where
 y:W.heap[w.heap.size+1]? =some (.cells #[.int .i64 k,.int .i64 l,.slice A s.length c] 133 (0,0))
 sl:SlZ W 216 encN A s
 b:Below w.heap.size w W

def Do13Post [Zone] (l:Nat) (k:Int) (r:List Nd) (o:Op3) (w:World) (e:Ending) (w':World) :Prop:=
 ∃(s:List Nd) (A:Option Addr) (cp:Nat) (n:Int),e=.returned (.tuple #[.agg #[.int .i64 k,.int .i64 l,.slice A s.length cp],.int .i64 n])∧DoTo l k r o s n∧SlZ w' 216 encN A s∧Below w.heap.size w w'
def RdPost [Zone] (s:List UInt8) (w:World) (e:Ending) (w':World) :Prop:=
 ∃A c,e=.returned (.tuple #[.agg #[.int .i64 (readW s).1.2.1,.int .i64 (readW s).1.1,.slice A (readW s).1.2.2.2.length c],.int .i64 (readW s).2])∧SlZ w' 216 encN A (readW s).1.2.2.2∧Below w.heap.size w w'
structure RdR (w:World) (W:World) :Prop where
 x:W.heap[w.heap.size]? =some (.cells #[.int .i64 0,.int .i64 0,.slice none 0 0] 133 (0,0))
 y:W.heap[w.heap.size+1]? =some (.cells #[.int .i64 0,.int .i64 0,.slice none 0 0] 133 (0,0))
 b:Below w.heap.size w W
theorem cnt_fits {l n:Nat} {ids:List Int} {s:List UInt8} (hl:1≤l∧l≤48) (hn:n≤72057594037927935) (hr:ids.Pairwise (· < ·)) (h1: ∀x∈ids,1≤x) (ha: (ids.all fun id=>isNode l id) =true) (h: (cntF ids s (n:Int) []).2.2.2=0) :
 Fits l (cntF ids s (n:Int) []).1∧sumR (cntF ids s (n:Int) []).1+ (cntF ids s (n:Int) []).2.2.1=n∧0≤(cntF ids s (n:Int) []).2.2.1∧(cntF ids s (n:Int) []).1.length=ids.length:=by
 obtain⟨cs,e1,e2,e3,e4,e5⟩:=cntF_ok ids s (n:Int) [] (by omega) h;rw [List.nil_append] at e1;rw [←e1] at e2 e3 e4;refine⟨⟨roll_of_ids e2 hr h1 e3,?_,by omega⟩,e4,e5,by have h5:=congrArg List.length e2;rwa [List.length_map] at h5⟩;intro x hx;have hm:x.1∈ids:=by rw [←e2];exact List.mem_map_of_mem hx
 have:=(isNode_lt (List.all_eq_true.1 ha x.1 hm)).2
 simpa using this
end Go.Proofs.YtmdidmclfbfmiaaGreatDoor
