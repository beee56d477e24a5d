/-
  Texts of this proof, one behind the other: EpNew, EpHear, OpenStep, EpAliveL, EpS, EpAlive, EpNil, EpDoL, OpenBase, EpFew, EpRun, Sea, EpEndL, SeaClose, SeaL, SeaNew, QuantLaw, Quant, TabOf, Of, Quant2, PartB, Quant3, Quant4, SeaTrend, Order, TableN.
-/
import Derived.Test.YtlgnakobjkhmhaaGreatDoorLaid
import Derived.Test.YtlgnakobjkhmhaaGreatDoorR1
import Derived.Test.YtlgnakobjkhmhaaGreatDoorR3
import Derived.Test.YtlgnakobjkhmhaaGreatDoorR5
import Derived.Test.YtlgnakobjkhmhaaGreatDoorR6
import Derived.Test.YtlgnakobjkhmhaaGreatDoorR9
set_option linter.unusedVariables false
set_option linter.unusedSimpArgs false
set_option maxRecDepth 100000
set_option maxHeartbeats 16000000
namespace Go.Proofs.YtlgnakobjkhmhaaGreatDoor
open Go.ChangeShapes Go.WideShapes Go.ChangeAt Go.RowKit
def plcE (ps:List Int) (wt:Int) (i:Nat) :Plc:=⟨i,kidsC ps i,wt⟩
def newE (ps:List Int) (l k K wt ep:Int) :Int:=if rightG ps=false then 15 else if newS l k K (plcE ps wt 0) ep=false then 2 else 0
def epNew (ps:List Int) (l k K wt ep:Int) :EpM:=⟨(List.range ps.length).map fun i=>(senNew l k K (plcE ps wt i) ep, []),⟨0,0,0,0,0, []⟩,false,false⟩
theorem kids_not_me {ps:List Int} (h:rightG ps=true) {i:Nat} (hi:i<ps.length) :hasC (kidsC ps i) (i:Int) =false:=by
 have h48:=(rightG_len h).2;rw [bit_has (by omega)];unfold kidsC;rw [kidF_bit ps i _ h48]
 have:ps[i]? ≠some (i:Int):=fun e=>by
  obtain⟨l,hl,_⟩:=rightG_ways h i hi;exact hl.not_below e hl.mem
 simp [this]
theorem kids_right {ps:List Int} (h:rightG ps=true) (i:Int) :rightC (kidsC ps i) =true:=by
 have h48:=(rightG_len h).2;have h1:=kidF_lt ps i h48;have h2:=Nat.pow_le_pow_right (n:=2) (by decide) h48;unfold rightC kidsC;simp only [decide_eq_true_eq];omega
theorem right_plc {ps:List Int} (h:rightG ps=true) (wt:Int) {i:Nat} (hi:i<ps.length) :rightS (plcE ps wt i) = (decide (1≤wt) && decide (wt≤1048576)):=by
 have h48:=(rightG_len h).2;have hc:isCrew (i:Int) =true:=by simp only [isCrew,decide_eq_true_eq];omega
 unfold rightS plcE;dsimp only;rw [hc,kids_right h,kids_not_me h hi];simp
theorem new_same {ps:List Int} (h:rightG ps=true) {l k K wt ep:Int} {i:Nat} (hi:i<ps.length) :newS l k K (plcE ps wt i) ep=newS l k K (plcE ps wt 0) ep:=by
 unfold newS;rw [right_plc h wt hi,right_plc h wt (by omega)]
structure EpPa (w:World) (base g K l gw:Nat) (vp vo vs:Value) (gs:List Nat) (ps:List Int) (ss:List SR) (Fs:Nat→Nat→Prop) :Prop where
 cs:w.heap[g]? =some (.cells #[.pointer (some ⟨gw,0,none⟩),vp,vo,vs,.bool false,.bool false] 85 (0,0))
 gb:base≤g
 bs:base≤w.heap.size
 wv:WaveAt w base gw ⟨0,0,0,0,0, []⟩
 p:Own w base 3 encZ vp ps
 o:Own w base 3 encZ vo (ordZ ps)
 s:Own w base 97 encEp vs gs
 lg:gs.length=ss.length
 at_: ∀i x,ss[i]? =some x→SensAt w (gs.getD i 0) K l x.1 x.2 (Fs i)
 fb: ∀i,i<ss.length→∀b,Fs i b→base≤b
 ap: ∀i j,i<ss.length→j<ss.length→i≠j→∀b,Fs i b→¬Fs j b
 fp: ∀i,i<ss.length→∀b,Fs i b→vp.ownBlock≠some b∧vo.ownBlock≠some b
section
variable {w W W2 W3:World} {base g K l gw:Nat} {vp vo vs vs':Value} {gs:List Nat} {ps:List Int} {ss:List SR} {Fs:Nat→Nat→Prop}
theorem EpPa.below (h:EpPa W base g K l gw vp vo vs gs ps ss Fs) (hb:Below W.heap.size W W2) :EpPa W2 base g K l gw vp vo vs gs ps ss Fs:=
 ⟨bB h.cs hb,h.gb,Nat.le_trans h.bs hb.size,h.wv.below hb,h.p.below hb,h.o.below hb,h.s.below hb,h.lg,fun i x hx=>(h.at_ i x hx).below hb,h.fb,h.ap,h.fp⟩
theorem EpPa.add (h:EpPa W base g K l gw vp vo vs gs ps ss Fs) (hb:Below W.heap.size W W2) {gx:Nat} {x:SR} {Fx:Nat→Prop} (hs:SensAt W2 gx K l x.1 x.2 Fx) (hF: ∀b,Fx b→W.heap.size≤b) (hg:W2.grownBy W3 vs.ownBlock) (ho:Own W3 base 97 encEp vs' (gs ++ [gx])) :
 EpPa (W3.setCell ⟨g,3,none⟩ vs') base g K l gw vp vo vs' (gs ++ [gx]) ps (ss ++ [x]) (fun i=>if i=ss.length then Fx else Fs i):=by
 have h2:=h.below hb;have hn:vs.ownBlock≠some g:=h2.s.ne_block h2.cs (by decide);have kb: ∀b,b<W2.heap.size→vs.ownBlock≠some b→b≠g→(W3.setCell ⟨g,3,none⟩ vs').heap[b]? =W2.heap[b]? :=fun b hlt hne hgb=>(Below.heap_setCell _ _ _ _ hgb).trans (hg.block b hlt (Ne.symm hne));have kt: ∀{b t:Nat},TypeAt W2 b t→t≠97∧t≠85→(W3.setCell ⟨g,3,none⟩ vs').heap[b]? =W2.heap[b]? :=fun {b t} hT ht=>kb b hT.lt (fun e=>ht.1 (typeAt_eq hT (own_tyAt h2.s b e))) (by rintro rfl;exact ht.2 (typeAt_eq hT (.of h2.cs)));have ks: ∀{gi:Nat} {s:Sen} {r:List Nd} {Fi:Nat→Prop},SensAt W2 gi K l s r Fi→SensAt (W3.setCell ⟨g,3,none⟩ vs') gi K l s r Fi:=fun {gi s r Fi} hi=>hi.keep fun b hb=>kb b (hi.lt b hb) (fun e=>hi.not_type (own_tyAt h2.s b e) (by decide) hb) (by rintro rfl;exact hi.not_type (.of h2.cs) (by decide) hb);have hs3:W2.heap.size≤(W3.setCell ⟨g,3,none⟩ vs').heap.size:=by simp [World.setCell];exact hg.size
 have hll: ∀i,i< (ss ++ [x]).length→i=ss.length∨i<ss.length:=fun i hi=>by rw [List.length_append,List.length_singleton] at hi;omega
 refine⟨?_,h.gb,Nat.le_trans h2.bs hs3,?_,?_,?_,?_,by simp [h.lg],?_,?_,?_,?_⟩
 ·exact zH (i:=3) ((hg.block g (lB h2.cs) (Ne.symm hn)).trans h2.cs) vs'
 ·exact h2.wv.keepF fun b hb=>by
   rcases (h2.wv.type hb).1 with h|h
   ·exact kt h (by decide)
   ·exact kt h (by decide)
 ·exact h2.p.of_block fun b hb=>kt (own_tyAt h2.p b hb) (by decide)
 ·exact h2.o.of_block fun b hb=>kt (own_tyAt h2.o b hb) (by decide)
 ·exact ho.setCell (p:=⟨g,3,none⟩) (fun e=>by
   obtain⟨cs,fr,hh⟩:=own_tyAt ho g e;have:=(hg.block g (lB h2.cs) (Ne.symm hn)).trans h2.cs;rw [this] at hh
   cases hh) vs'
 ·intro i y hy
  rcases hll i (List.getElem?_eq_some_iff.1 hy).1 with rfl|hi
  ·rw [List.getElem?_append_right (Nat.le_refl _),Nat.sub_self] at hy
   cases hy
   rw [if_pos rfl,←h.lg,List.getD_eq_getElem?_getD,List.getElem?_append_right (Nat.le_refl _),Nat.sub_self];exact ks hs
  ·rw [List.getElem?_append_left hi] at hy
   rw [if_neg (by omega),List.getD_eq_getElem?_getD,List.getElem?_append_left (by rw [h.lg];exact hi),←List.getD_eq_getElem?_getD];exact ks (h2.at_ i y hy)
 ·intro i hi b hf
  rcases hll i hi with rfl|hi
  ·rw [if_pos rfl] at hf
   exact Nat.le_trans h.bs (hF b hf)
  ·rw [if_neg (by omega)] at hf
   exact h.fb i hi b hf
 ·intro i j hi hj hij b hf hf2
  rcases hll i hi with rfl|hi
  ·rcases hll j hj with rfl|hj
   ·exact hij rfl
   ·rw [if_pos rfl] at hf
    rw [if_neg (by omega)] at hf2;have h3:=hF b hf;have h4:=(h.at_ j _ (List.getElem?_eq_getElem hj)).lt b hf2;omega
  ·rw [if_neg (by omega)] at hf
   rcases hll j hj with rfl|hj
   ·rw [if_pos rfl] at hf2
    have h3:=hF b hf2;have h4:=(h.at_ i _ (List.getElem?_eq_getElem hi)).lt b hf;omega
   ·rw [if_neg (by omega)] at hf2
    exact h.ap i j hi hj hij b hf hf2
 ·intro i hi b hf
  rcases hll i hi with rfl|hi
  ·rw [if_pos rfl] at hf
   have h3:=hF b hf;exact⟨fun e=>by have:=(h.p.lt b e).2;omega,fun e=>by have:=(h.o.lt b e).2;omega⟩
  ·rw [if_neg (by omega)] at hf
   exact h.fp i hi b hf
theorem EpPa.done (h:EpPa W base g K l gw vp vo vs gs ps ss Fs) (hl:ss.length=ps.length) : ∃F,EpAt W ⟨base,g,K,l,gw,vp,vo,vs,gs,ps⟩ ⟨ss,⟨0,0,0,0,0, []⟩,false,false⟩ F:=
 ⟨epF W ⟨base,g,K,l,gw,vp,vo,vs,gs,ps⟩ Fs,Fs,⟨h.cs,h.gb,h.bs,h.wv,h.p,h.o,h.s,by rw [←hl];exact h.lg,hl,h.at_,fun i hi=>h.fb i (by rw [hl];exact hi),fun i j hi hj=>h.ap i j (by rw [hl];exact hi) (by rw [hl];exact hj),fun i hi=>h.fp i (by rw [hl];exact hi)⟩,fun b=>Iff.rfl⟩
end
def NewEp (ps:List Int) (l K:Nat) (k wt ep:Int) (w:World) (e:Ending) (w':World) :Prop:=
 ∃(L:EpL) (F:Nat→Prop),e=.returned (.tuple #[.pointer (some ⟨L.g,0,none⟩),.int .i64 0])∧EpAt w' L (epNew ps l k K wt ep) F∧L.ps=ps∧L.l=l∧L.K=K∧L.base=w.heap.size∧Below w.heap.size w w'
theorem WaveAt.base_le {w:World} {base b g:Nat} {s:WS} (h:WaveAt w base g s) (hb:b≤base) :WaveAt w b g s:=by
 obtain⟨v,hh,hg,ho⟩:=h;exact⟨v,hh,Nat.le_trans hb hg,ho.base_le hb⟩
theorem clone_ints (w:World) (A:Option Addr) (cap:Nat) (ps:List Int) (hS:Sl w w.heap.size encZ A ps) (h0:0<ps.length) (hm:ps.length≤48) :
 Calls Tryz.prog 58 #[.slice A ps.length cap] w fun e w'=>∃v,e=.returned v∧Own w' w.heap.size 3 encZ v ps∧Below w.heap.size w w':=by
 obtain⟨b,off,rfl,hb,hcl⟩:=hS.at_ h0;clear hcl
 refine(Tryz.slices_Clone_int b off ps.length cap ps w (Nat.le_refl _) (by omega) (fun j hj=>by
  rcases hS with h0| ⟨b',off',hA,_,hc⟩
  ·subst h0;simp at hj
  ·cases hA
   have:=hc j _ (List.getElem?_eq_getElem hj) 0 (.int .i64 ps[j]) rfl;rw [Nat.mul_one,Nat.add_zero] at this;rw [this];simp [List.getD,hj])).mono ?_
 rintro e w' ⟨v,rfl,hrow,_,hbl⟩;rw [List.take_length] at hrow
 have hfl:ps.map (Value.int .i64) =ps.flatMap encZ.enc:=by
  clear hrow hS h0 hm
  induction ps with
  |nil=>rfl
  |cons x t ih=>rw [List.map_cons,List.flatMap_cons,ih];rfl
 rw [hfl] at hrow;exact⟨v,rfl,Own.of_row hrow rfl (by decide),hbl⟩
theorem ep_New (w:World) (A:Option Addr) (cap:Nat) (ps:List Int) (l K:Nat) (k wt ep:Int) (hS:Sl w w.heap.size encZ A ps) (hT:TabZ w) (hR:rightG ps=true) (hN:newS l k K (plcE ps wt 0) ep=true) :
 Calls Tryz.prog 30 #[.slice A ps.length cap,confV l k K,.int .i64 wt,.int .i64 ep] w (NewEp ps l K k wt ep w):=by
 unfold confV;have hn:=rightG_len hR;have hb0:Below w.heap.size w (w.alloc (.cells #[.int .i64 l,.int .i64 k,.int .i64 K] 28)):=bE;have c0:=LH (heap_alloc_new w (.cells #[.int .i64 l,.int .i64 k,.int .i64 K] 28));have SL:=LH (fun W (h:Below w.heap.size w W)=>(hS.keep (B':=W.heap.size) h.size (fun p hp=>h.cell hp) :Sl W W.heap.size encZ A ps));have HO:=LH (fun W (h:Below w.heap.size w W)=>grove_Order W A cap ps (SL.out W h) (hT.below h) hR);have HC:=LH (fun W (h:Below w.heap.size w W)=>clone_ints W A cap ps (SL.out W h) (by omega) hn.2);have HK:=LH (fun W (h:Below w.heap.size w W) i hi=>grove_Kids W A cap ps i (SL.out W h) hR hi)
 have HNs:Hid (∀W i,i<ps.length→Calls Tryz.prog 60 #[.agg #[.int .i64 l,.int .i64 k,.int .i64 K],.agg #[.int .i64 i,.int .u64 (kidsC ps i),.int .i64 wt],.int .i64 ep] W (SenPost K l (senNew l k K (plcE ps wt i) ep) W)):=LH fun W i hi=>
  sensor_New W l K k (plcE ps wt i) ep (kidF_lt64 ps i hn.2) (by rw [new_same hR hi];exact hN)
 clear hS hT hN;obtain⟨n,hnn⟩ : ∃n,n=ps.length:=⟨_,rfl⟩;have HNn:=LH hnn
 have HP:Hid (∀W g gw vp vo vs gs Fs,EpPa W w.heap.size g K l gw vp vo vs gs ps ((List.range n).map fun i=>(senNew l k K (plcE ps wt i) ep, [])) Fs→Below w.heap.size w W→NewEp ps l K k wt ep w (.returned (.tuple #[.pointer (some ⟨g,0,none⟩),.int .i64 0])) W):=LH fun W g gw vp vo vs gs Fs h hb=>by
  obtain⟨F,hA⟩:=h.done (by rw [List.length_map,List.length_range,hnn]);rw [hnn] at hA;exact⟨_,F,rfl,hA,rfl,rfl,rfl,rfl,hb⟩
 unfold OrdPost at HO;rw [←hnn] at hn HC HK HNs HO⊢;have HO0:=LH (HO.out _ hb0);clear hnn HO;generalize NewEp ps l K k wt ep w=PP at*;obtain⟨pc,hpc⟩ : ∃q,q=w.heap.size:=⟨_,rfl⟩
 go_enter Tryz.func30,Tryz.ntmps30
 go_upto_region 1 with fail;have c0':=c0;rw [←hpc] at c0'⊢;have zz:w.heap.size≤pc:=by omega
 generalize w.alloc (.cells #[.int .i64 l,.int .i64 k,.int .i64 K] 28) =W0 at c0' HO0 hb0⊢;clear c0 hpc;go_wp2_with fail;refine HO0.out.mono ?_;rintro e w1 ⟨vo,rfl,ho,hb1⟩;have B1:=LH (hb0.trans (hb1.mono hb0.size));have C1:=LH (bB c0'.out hb1);have O1:=LH (ho.base_le hb0.size);clear ho hb1 c0' hb0 HO0;go_wp2_with fail;refine(wave_New w1).mono ?_;rintro e w2 ⟨rfl,hb2,hw2⟩;have B2:=LH (B1.out.trans (hb2.mono B1.out.size));have C2:=LH (bB C1.out hb2);have O2:=LH (O1.out.below hb2);have W2:=LH (hw2.base_le B1.out.size);clear hw2 hb2 C1 O1;go_wp2_with fail;refine(HC.out w2 B2.out).mono ?_;rintro e w3 ⟨vp,rfl,hp,hb3⟩;have B3:=LH (B2.out.trans (hb3.mono B2.out.size));have C3:=LH (bB C2.out hb3);have O3:=LH (O2.out.below hb3);have W3:=LH (W2.out.below hb3);have P3:=LH (hp.base_le B2.out.size);clear hp hb3 C2 O2 W2;obtain⟨Ap,cp,rfl,_⟩:=P3.out.form;obtain⟨Ao,co,rfl,_⟩:=O3.out.form;go_upto_region 5 with fail
 have E0:EpPa (w3.alloc (.cells #[.pointer (some ⟨w1.heap.size,0,none⟩),.slice Ap ps.length cp,.slice Ao (natZ (orderG ps)).length co,.slice none 0 0,.bool false,.bool false] 85)) w.heap.size w3.heap.size K l w1.heap.size (.slice Ap ps.length cp) (.slice Ao (natZ (orderG ps)).length co) (.slice none 0 0) [] ps [] (fun _ _=>False):=by
  have ba:Below w3.heap.size w3 (w3.alloc (.cells #[.pointer (some ⟨w1.heap.size,0,none⟩),.slice Ap ps.length cp,.slice Ao (natZ (orderG ps)).length co,.slice none 0 0,.bool false,.bool false] 85)):=(Below.refl _ _).alloc (Nat.le_refl _) _;exact⟨heap_alloc_new w3 _,B3.out.size,Nat.le_trans B3.out.size ba.size,W3.out.below ba,P3.out.below ba,O3.out.below ba,Own.nil _ _ _ _,rfl,fun i x h=>by simp at h,fun i h=>by simp at h,fun i j h=>by simp at h,fun i h=>by simp at h⟩
 have E1:=LH E0;have B4:Hid (Below w.heap.size w (w3.alloc (.cells #[.pointer (some ⟨w1.heap.size,0,none⟩),.slice Ap ps.length cp,.slice Ao (natZ (orderG ps)).length co,.slice none 0 0,.bool false,.bool false] 85))):=LH (B3.out.alloc B3.out.size _);have C4:Hid ((w3.alloc (.cells #[.pointer (some ⟨w1.heap.size,0,none⟩),.slice Ap ps.length cp,.slice Ao (natZ (orderG ps)).length co,.slice none 0 0,.bool false,.bool false] 85)).heap[pc]? =some (.cells #[.int .i64 l,.int .i64 k,.int .i64 K] 28 (0,0))):=LH (bB C3.out ((Below.refl _ _).alloc (Nat.le_refl _) _));have hpcg:pc≠w3.heap.size:=by have:=lB C3.out;omega
 clear E0 C3 O3 W3 P3 B3 B2 B1;generalize w3.alloc (.cells #[.pointer (some ⟨w1.heap.size,0,none⟩),.slice Ap ps.length cp,.slice Ao (natZ (orderG ps)).length co,.slice none 0 0,.bool false,.bool false] 85) =W4 at E1 B4 C4⊢;generalize Value.slice Ap ps.length cp=vp at*;generalize Value.slice Ao (natZ (orderG ps)).length co=vo at*;generalize w3.heap.size=g at*;generalize w1.heap.size=gw at*;go_wp2_with fail
 go_loopw [35] (fun i wr=>∃(q:Nat) (vs:Value) (gs:List Nat) (Fs:Nat→Nat→Prop),i=.int .i64 q∧q≤n∧EpPa wr w.heap.size g K l gw vp vo vs gs ps ((List.range q).map fun i=>(senNew l k K (plcE ps wt i) ep, [])) Fs∧wr.heap[pc]? =some (.cells #[.int .i64 l,.int .i64 k,.int .i64 K] 28 (0,0))∧Below w.heap.size w wr) (fun i _=>n - (intOf i).toNat)
 case atStart=>exact⟨0,_,_,_,rfl,Nat.zero_le _,E1.out,C4.out,B4.out⟩
 case round=>
  obtain⟨q,vs,gs,Fs,rfl,hq,hE,hC,hB⟩:=hrel;have KE:=LH hE;have KC:=LH hC;have KB:=LH hB;clear hE hC hB;by_cases hlt:q<n
  ·have hrange:Hid ((List.range (q+1)).map (fun i=>((senNew l k K (plcE ps wt i) ep, []) :SR)) = (List.range q).map (fun i=>(senNew l k K (plcE ps wt i) ep, [])) ++ [(senNew l k K (plcE ps wt q) ep, [])]):=LH (by rw [List.range_succ,List.map_append];rfl)
   go_wp2_with fail;refine(HK.out wr KB.out q hlt).mono ?_;rintro e w5 ⟨rfl,hb5⟩;have c5:=bB KC.out hb5;have cc:=bC c5;have zc:=lB c5;have E5:=LH (KE.out.below hb5);have C5:=LH c5;have B5:=LH (KB.out.trans (hb5.mono KB.out.size));clear hb5 c5;go_wp2_with fail;refine(HNs.out w5 q (by have:=HNn.out;omega)).mono ?_;rintro e w6 ⟨gx,Fx,rfl,hs,hF,hb6⟩;have S6:=LH hs;have F6:=LH hF;have H6:=LH hb6;have e6:=E5.out.below hb6;have C6:=LH (bB C5.out hb6);have B6:=LH (B5.out.trans (hb6.mono B5.out.size));have O6:=LH e6.s;have c6:=bC e6.cs;have z6:=lB e6.cs;have f6:=bF e6.cs;have hgl:Hid (gs.length=q):=LH (by rw [KE.out.lg];simp);have n1:=e6.s.ne_block e6.cs (by decide);obtain⟨As,cs,rfl,_⟩:=e6.s.form;have hbw:w.heap.size≤w6.heap.size:=B6.out.size;have E6:=LH e6;clear hs hF hb6 e6 cc zc;go_wp2_with ((at_builtin;refine wpList_push tyEp rfl _ _ rfl encEp w6 w.heap.size _ gs rfl O6.out gx (by go_simp) rfl ?c1 ?c2 ?c3 ?c4))
   case c1=>have:=hgl.out;omega
   case c2=>have:=hgl.out;simp only [maxLen];omega
   case c3=>exact hbw
   case c4=>
    intro v7 w7 hown7 hgrow7 hs7 _ hb7 _;have fin:=E5.out.add (x:=(senNew l k K (plcE ps wt q) ep, [])) H6.out S6.out F6.out hgrow7 hown7;rw [←hrange.out] at fin;have FIN:=LH fin;have c7:w7.heap[g]? =_:=(hgrow7.block g (lB E6.out.cs) (Ne.symm n1)).trans E6.out.cs;have cc7:=bC c7;have z7:=lB c7;have f7:=bF c7
    have k7:w7.heap[pc]? =_:=(hgrow7.block pc (lB C6.out) (fun e=>by
     obtain⟨cs2,fr2,hh⟩:=own_tyAt O6.out pc e.symm;rw [C6.out] at hh
     cases hh)).trans C6.out
    have K7:=LH ((Below.heap_setCell w7 ⟨g,3,none⟩ v7 pc hpcg).trans k7);have B7:=LH ((B6.out.trans hb7).setCell (p:=⟨g,3,none⟩) E6.out.gb v7);obtain⟨A7,c7c,rfl,_⟩:=hown7.form;have el: (gs ++ [gx]).length=gs.length+1:=by simp
    rw [el] at FIN K7 B7⊢;clear el hown7 hgrow7 hb7 fin c7 k7 c6 z6 f6;go_wp2_with fail;go_roundw
    case rel=>exact⟨q+1,_,gs ++ [gx],_,by go_num,by omega,FIN.out,K7.out,B7.out⟩
    case measure=>simp [intOf];omega
  ·obtain rfl:q=n:=by omega
   go_wp2_with fail;exact HP.out _ _ _ _ _ _ _ _ KE.out KB.out
theorem OnTo.snoc_inv {l:Nat} {ps:List Int} {m m':EpM} {is:List Nat} {i:Nat} (h:OnTo l ps m (is ++ [i]) m') : ∃m1,OnTo l ps m is m1∧OnStep l ps m1 i m':=by
 generalize hl:is ++ [i] =L at h
 cases h with
 |nil=>simp at hl
 | @snoc is' m1 _ i' h1 h2=>
  obtain⟨rfl,h3⟩:=List.append_inj' hl rfl;obtain rfl:i=i':=by simpa using h3
  exact⟨m1,h1,h2⟩
theorem OnTo.nil_inv {l:Nat} {ps:List Int} {m m':EpM} (h:OnTo l ps m [] m') :m'=m:=by
 generalize hl: ([] :List Nat) =L at h
 cases h with
 |nil=>rfl
 |snoc h1 h2=>simp at hl
theorem OnStep.send_inv {l:Nat} {ps:List Int} {m m':EpM} {i:Nat} {x:SR} (h:OnStep l ps m i m') (hx:m.ss[i]? =some x) (hr:readyS x.1=true) : ∃pl r',RunTo l (sumR x.2 / x.1.k) x.2 pl r'∧m'=sendM l ps m i x.1 r':=by
 cases h with
 |skip h1 h2=>
  rw [hx] at h1
  cases h1
  rw [hr] at h2
  cases h2
 |send h1 h2 h3=>
  rw [hx] at h1
  cases h1
  exact⟨_,_,h3,rfl⟩
section
variable {l K:Nat} {k wt:Int} {ps:List Int} {E:Int} {D D':Nat→List Nd} {N N':Nat→Int} {m m':EpM} {j:Nat} {x:SR} {y:It}
theorem EpJ.new {K:Nat} (hR:rightG ps=true) {ep:Int} (h:newS l k K (plcE ps wt 0) ep=true) :EpJ l K k wt ps ep (fun _=> []) (fun _=>0) (epNew ps l k K wt ep):=by
 have hln:=rightG_len hR
 have at_: ∀i x,(epNew ps l k K wt ep).ss[i]? =some x→i<ps.length∧x= (senNew l k K (plcE ps wt i) ep, []):=fun i x hx=>by
  have hx: ((List.range ps.length).map fun i=>((senNew l k K (plcE ps wt i) ep, []) :SR))[i]? =some x:=hx;rw [List.getElem?_map] at hx;obtain⟨y,hy,rfl⟩:=Option.map_eq_some_iff.1 hx;have hi:=(List.getElem?_eq_some_iff.1 hy).1;rw [List.length_range] at hi;rw [List.getElem?_range hi] at hy
  cases hy
  exact⟨hi,rfl⟩
 have h':=h;simp only [newS,isDig,isPool,Bool.and_eq_true,decide_eq_true_eq] at h'
 have hS: ∀j,¬SentA (epNew ps l k K wt ep) j:=fun j ⟨x,h1,h2⟩=>by
  obtain⟨_,rfl⟩:=at_ j x h1
  cases h2
 refine⟨hR,by omega,by omega,by omega,by simp [epNew],fun j=>.nil l,fun j=>Int.le_refl _,by rw [totN_zero];decide,fun j x hx=> ?_,fun y hy=>by simp [epNew] at hy,⟨fun (h:false=true)=>absurd h (by decide),fun h=>absurd h (hS _)⟩⟩;obtain⟨hj,rfl⟩:=at_ j x hx;have hn:newS l k K (plcE ps wt j) ep=true:=by rw [new_same hR hj];exact h
 refine⟨rfl,rfl,rfl,rfl,rfl,SenOk.new hn,?_,?_,?_⟩
 ·exact Covers.new (by omega) rfl rfl
 ·intro i hi
  have hi: (withC 0 (j:Int)).testBit i=true:=hi;rw [withC_zero (by omega),decide_eq_true_eq] at hi;subst hi;exact .here (by show (withC 0 (j:Int)).testBit j=true;rw [withC_zero (by omega)];simp)
 ·intro i hi hne
  have hi: (withC 0 (j:Int)).testBit i=true:=hi;rw [withC_zero (by omega),decide_eq_true_eq] at hi;exact absurd hi.symm hne
theorem WvOk.new (n:Nat) :WvOk n 0 ⟨0,0,0,0,0, []⟩:=⟨by simp,by simp,by simp [WS.total]⟩
end
section
variable {H:Type} {enc:TypeId×Value→H} {w:World} {base:Nat} {spare:Nat→Bool} {held:Bool} {fuel:Nat} {cs:List Value} {x:DataW H×List MemPlace}
end
def stepV (a b c d e f:Int) :Value:=.agg #[.int .i64 a,.int .i64 b,.int .i64 c,.int .i64 d,.int .i64 e,.int .u8 f]
def psA:List Int:= [-1,0]
def xA0:SR:=(senNew 3 2 2 (plcE psA 3 0) 0, [])
def xA1:SR:=(senNew 3 2 2 (plcE psA 3 1) 0, [])
def mA (r0 r1:List Nd) (st:Bool) :EpM:=⟨[(xA0.1,r0),(xA1.1,r1)],⟨0,0,0,0,0, []⟩,st,false⟩
def dA:Nat→List Nd:=upd (upd (fun _=> []) 0 [(5,1)]) 1 [(6,2)]
def nA:Nat→Int:=upd (upd (fun _=>0) 0 1) 1 1
section
variable {l:Nat} {ps:List Int} {m m':EpM} {o:Stp} {e:Int}
theorem EpStep.put_inv (h:EpStep l ps m o e m') (h0:o.kd=0) {i:Nat} {x:SR} (hi:o.i= (i:Int)) (hx:m.ss[i]? =some x) (hl:m.ss.length=ps.length) : ∃r',PutTo l x.1 x.2 o.x o.w r'∧e=putErr l x.1 x.2 o.x o.w∧m'=m.setS i (x.1,r'):=by
 cases h with
 |put_no h1 h2=>exact absurd ⟨by omega,by have:=(List.getElem?_eq_some_iff.1 hx).1;omega⟩ h2
 | @put i' x' r' h1 h2 h3 h4=>
  obtain rfl:i=i':=by omega
  rw [hx] at h3
  cases h3
  exact⟨r',h4,rfl,rfl⟩
 |early h1 h2 h3 h4=>omega
 |take_no h1=>omega
 |take h1=>omega
 |lose h1=>omega
 |copy h1=>omega
 |spoil h1=>omega
 |late h1=>omega
 |start h1=>omega
 |next_no h1=>omega
 |limit h1=>omega
 |next h1=>omega
 |tick h1=>omega
theorem EpStep.start_inv (h:EpStep l ps m o e m') (h0:o.kd=6) (hs:m.st=false) :e=0∧OnTo l ps {m with st:=true} (orderG ps) m':=by
 cases h with
 |put_no h1 h2=>omega
 |put h1=>omega
 |early h1 h2 h3 h4=>omega
 |take_no h1=>omega
 |take h1=>omega
 |lose h1=>omega
 |copy h1=>omega
 |spoil h1=>omega
 |late h1 h2=>rw [hs] at h2;cases h2
 |start h1 h2 h3=>exact⟨rfl,h3⟩
 |next_no h1=>omega
 |limit h1=>omega
 |next h1=>omega
 |tick h1=>omega
end
def EpS (w:World) (L:EpL) (m:EpM) (W:World) :Prop:=∃F,EpAt W L m F∧(∀b,F b→w.heap.size≤b)∧Below w.heap.size w W
section
variable {w W W':World} {L:EpL} {m m':EpM} {F:Nat→Prop} {T:Nat}
theorem EpS.at_ (h:EpS w L m W) : ∃F,EpAt W L m F:=by
 obtain⟨F,h1,h2,h3⟩:=h;exact⟨F,h1⟩
theorem EpS.new {ps:List Int} {l K:Nat} {k wt ep:Int} {w0:World} {e:Ending} (h:NewEp ps l K k wt ep w0 e W) (hb:Below w.heap.size w w0) : ∃L,e=.returned (.tuple #[.pointer (some ⟨L.g,0,none⟩),.int .i64 0])∧EpS w L (epNew ps l k K wt ep) W∧L.ps=ps∧L.l=l∧L.K=K:=by
 obtain⟨L,F,rfl,h1,h2,h3,h4,h5,h6⟩:=h;exact⟨L,rfl,⟨F,h1,fun b hf=>by have:=h1.ge b hf;rw [h5] at this;exact Nat.le_trans hb.size this,Below.then_ hb h6⟩,h2,h3,h4⟩
def EpE (w:World) (L:EpL) (m:EpM) (o:Stp) (e:Ending) (W':World) :Prop:=∃er m',e=.returned (.int .i64 er)∧EpStep L.l L.ps m o er m'∧EpS w L m' W'
theorem EpS.result (h:EpS w L m W) (hR:rightG L.ps=true) (he:m.en=true) {x:SR} (hx:m.ss[rootG L.ps]? =some x) :Calls Tryz.prog 20 #[.pointer (some ⟨L.g,0,none⟩)] W (ResPost L.K L.l x W):=by
 obtain⟨F,h1⟩:=h.at_;exact ep_Result W L m F x h1 hR he hx
theorem EpS.result_no (h:EpS w L m W) (he:m.en=false) :Calls Tryz.prog 20 #[.pointer (some ⟨L.g,0,none⟩)] W fun e W'=>e=.returned (.tuple #[.pointer none,.int .u64 0,.int .i64 22])∧Below W.heap.size W W':=by
 obtain⟨F,h1⟩:=h.at_;exact ep_Result_no W L m F h1 he
end


def Stp.v (o:Stp) :Value:=stepV o.kd o.i o.x o.w o.at_ o.by_
def stpC (o:Stp) :Array Value:= #[.int .i64 o.kd,.int .i64 o.i,.int .i64 o.x,.int .i64 o.w,.int .i64 o.at_,.int .u8 o.by_]
def encSt:Enc Stp 6:=⟨fun o=> [.int .i64 o.kd,.int .i64 o.i,.int .i64 o.x,.int .i64 o.w,.int .i64 o.at_,.int .u8 o.by_],fun _=>rfl,by intro x u hu;simp at hu;rcases hu with rfl|rfl|rfl|rfl|rfl|rfl <;> rfl⟩
def StpOk (o:Stp) :Prop:=(i64 o.kd∧i64 o.i∧i64 o.x∧i64 o.w∧i64 o.at_)∧0≤o.by_∧o.by_≤255
instance:Inhabited Stp:=⟨⟨0,0,0,0,0,0⟩⟩
def baseV (A:Option Addr) (n cap:Nat) (l k K wt ep:Int) :Value:=.agg #[.slice A n cap,.int .i64 l,.int .i64 k,.int .i64 K,.int .i64 wt,.int .i64 ep]
section
variable {H:Type} {enc:TypeId×Value→H} {w:World} {base:Nat} {spare:Nat→Bool} {held:Bool} {fuel:Nat} {cs:List Value} {x:DataW H×List MemPlace}
end
def fewB (n m:Nat) (most K l:Int) :Bool:=decide ((n:Int)≤12) && decide ((m:Int)≤most) && (!decide (K=1) || decide (l≤10))
def noEp (ps:List Int) (l k K wt ep:Int) :Prop:=rightG ps=false∨(rightG ps=true∧newS l k K (plcE ps wt 0) ep=false)
def MadeE (ps:List Int) (l K:Nat) (k wt ep:Int) (w:World) (e:Ending) (w':World) :Prop:=∃L,e=.returned (.pointer (some ⟨L.g,0,none⟩))∧EpS w L (epNew ps l k K wt ep) w'∧L.ps=ps∧L.l=l∧L.K=K
def FairPost (w:World) (L:EpL) (m:EpM) (o:Stp) (e:Ending) (W':World) :Prop:=
 (e=.returned (.tuple #[.int .i64 0,.bool false])∧EpS w L m W')∨
 ∃er m',e=.returned (.tuple #[.int .i64 er,.bool true])∧(o.kd=4→∀(q:Nat) y,o.i= (q:Int)→m.wv.items[q]? =some y→(decL y.2.data.toList).2=0)∧EpStep L.l L.ps m o er m'∧EpS w L m' W'
structure EpW (w:World) (L:EpL) (K:Nat) (k wt:Int) (q:Nat) (E:Int) (D:Nat→List Nd) (N:Nat→Int) (m:EpM) (W:World) :Prop where
 s:EpS w L m W
 j:EpJ L.l K k wt L.ps E D N m
 v:WvOk L.ps.length (49*q) m.wv
 t:totN N≤q
section
variable {w W W':World} {L:EpL} {K:Nat} {k wt:Int} {q:Nat} {E:Int} {D:Nat→List Nd} {N:Nat→Int} {m:EpM}
theorem EpW.new {ps:List Int} {l:Nat} {ep:Int} (h:EpS w L (epNew ps l k K wt ep) W) (h1:L.ps=ps) (h2:L.l=l) (hR:rightG ps=true) (hN:newS l k K (plcE ps wt 0) ep=true) :EpW w L K k wt 0 ep (fun _=> []) (fun _=>0) (epNew ps l k K wt ep) W:=by
 refine⟨h,?_,WvOk.new _,by rw [totN_zero];decide⟩;rw [h1,h2];exact EpJ.new hR hN
end
structure RsI where
 g:Nat
 c:Nat
 r:List Nd
def encRs:Enc RsI 2:=⟨fun s=> [.pointer (some ⟨s.g,0,none⟩),.int .u64 s.c],fun _=>rfl,by intro x u hu;simp at hu;rcases hu with rfl|rfl <;> rfl⟩
theorem tyRs:SliceTy Tryz.prog 75 79 2 16 (.agg #[.pointer none,.int .u64 0]):=⟨Tryz.underlying75,by kernel_rfl,rfl,by decide⟩
section
variable {w W W':World} {L:EpL} {m m':EpM} {F F':Nat→Prop} {k:Int} {gs:Nat} {rs ds:List RsI} {A:Option Addr} {cap:Nat}
theorem EpAt.notSea (h:EpAt W L m F) {b t:Nat} (hb:TypeAt W b t) (ht:t=77∨t=79) : ¬F b:=fun hf=>by
 obtain⟨Fs,h1,h2⟩:=h;rcases (h2 b).1 hf with rfl|e|e|e|e| ⟨i,hi,e⟩
 ·have:=typeAt_eq hb (.of h1.cs)
  subst this;rcases ht with h|h <;> exact absurd h (by decide)
 ·have:=typeAt_eq hb (own_tyAt h1.p b e)
  subst this;rcases ht with h|h <;> exact absurd h (by decide)
 ·have:=typeAt_eq hb (own_tyAt h1.o b e)
  subst this;rcases ht with h|h <;> exact absurd h (by decide)
 ·have:=typeAt_eq hb (own_tyAt h1.s b e)
  subst this;rcases ht with h|h <;> exact absurd h (by decide)
 ·rcases ht with rfl|rfl
  ·exact h1.wv.not_type hb (by decide) e
  ·exact h1.wv.not_type hb (by decide) e
 ·obtain⟨x,hx⟩:=h1.has hi
  rcases ht with rfl|rfl
  ·exact(h1.at_ i x hx).not_type hb (by decide) e
  ·exact(h1.at_ i x hx).not_type hb (by decide) e
structure SeaB (w:World) (L:EpL) (k:Int) (gs:Nat) (A:Option Addr) (cap:Nat) (rs ds:List RsI) (F:Nat→Prop) (W:World) :Prop where
 xs:W.heap[gs]? =some (.cells #[.pointer (some ⟨L.g,0,none⟩),.slice A rs.length cap] 77 (0,0))
 gb:w.heap.size≤gs
 o:Own W w.heap.size 79 encRs (.slice A rs.length cap) rs
 d: ∀x∈ds,∃Fx,DigAt W x.g L.K L.l k x.r Fx∧∀b,Fx b→w.heap.size≤b∧¬F b
theorem SeaB.turn (h:SeaB w L k gs A cap rs ds F W) (hA:EpAt W L m F) (ht:Turn F W W') (hg:Grow W F F') :SeaB w L k gs A cap rs ds F' W':=
 ⟨(ht.block gs (lB h.xs) (hA.notSea (.of h.xs) (.inl rfl))).trans h.xs,h.gb,
  ht.own h.o fun b hb=>hA.notSea (own_tyAt h.o b hb) (.inr rfl),
  fun x hx=>by
   obtain⟨Fx,h1,h2⟩:=h.d x hx;refine⟨Fx,h1.keep fun b hb=>ht.block b (h1.lt b hb) (h2 b hb).2,fun b hb=>⟨(h2 b hb).1,fun hf=> ?_⟩⟩;rcases hg b hf with hf|hf
   ·exact(h2 b hb).2 hf
   ·have:=h1.lt b hb;omega⟩
theorem SeaB.below (h:SeaB w L k gs A cap rs ds F W) (hb:Below W.heap.size W W') :SeaB w L k gs A cap rs ds F W':=
 ⟨bB h.xs hb,h.gb,h.o.below hb,fun x hx=>by
  obtain⟨Fx,h1,h2⟩:=h.d x hx;exact⟨Fx,h1.below hb,h2⟩⟩
def SeaS (w:World) (L:EpL) (k:Int) (gs:Nat) (m:EpM) (rs ds:List RsI) (W:World) :Prop:=∃F A cap,EpAt W L m F∧(∀b,F b→w.heap.size≤b)∧Below w.heap.size w W∧SeaB w L k gs A cap rs ds F W
theorem SeaS.below (h:SeaS w L k gs m rs ds W) (hb:Below W.heap.size W W') :SeaS w L k gs m rs ds W':=by
 obtain⟨F,A,cap,h1,h2,h3,h4⟩:=h;exact⟨F,A,cap,h1.below hb,h2,Below.then_ h3 hb,h4.below hb⟩
theorem SeaS.ep (h:SeaS w L k gs m rs ds W) :EpS w L m W:=by
 obtain⟨F,A,cap,h1,h2,h3,h4⟩:=h;exact⟨F,h1,h2,h3⟩
theorem SeaS.blw (h:SeaS w L k gs m rs ds W) :Below w.heap.size w W:=by
 obtain⟨F,A,cap,h1,h2,h3,h4⟩:=h;exact h3
theorem SeaS.more (h:SeaS w L k gs m rs ds W) (hb:Below W.heap.size W W') {x:RsI} {Fx:Nat→Prop} (hd:DigAt W' x.g L.K L.l k x.r Fx) (hn: ∀b,Fx b→W.heap.size≤b) :SeaS w L k gs m rs (ds ++ [x]) W':=by
 obtain⟨F,A,cap,h1,h2,h3,h4⟩:=h;have h5:=h4.below hb;refine⟨F,A,cap,h1.below hb,h2,Below.then_ h3 hb,h5.xs,h5.gb,h5.o,fun y hy=> ?_⟩;rcases List.mem_append.1 hy with hy|hy
 ·exact h5.d y hy
 ·rw [List.mem_singleton] at hy
  subst hy;exact⟨Fx,hd,fun b hb=>⟨Nat.le_trans h3.size (hn b hb),fun hf=>by have:=h1.lt b hf;have:=hn b hb;omega⟩⟩
theorem SeaS.post (h:SeaS w L k gs m rs ds W) {o:Stp} {f:Nat} {args:Array Value} (kk: ∀F,EpAt W L m F→Calls Tryz.prog f args W (EpPost L m F o W)) :Calls Tryz.prog f args W fun e W'=>∃er m',e=.returned (.int .i64 er)∧EpStep L.l L.ps m o er m'∧SeaS w L k gs m' rs ds W':=by
 obtain⟨F,A,cap,h1,h2,h3,h4⟩:=h;refine(kk F h1).mono ?_;rintro e W' ⟨er,m',rfl,hs,F',k1,k2,k3⟩;exact⟨er,m',rfl,hs,F',A,cap,k1,fun b hb=>(k3 b hb).elim (h2 b) fun h=>Nat.le_trans h3.size h,h3.trans (k2.below h2 h3.size),h4.turn h1 k2 k3⟩
theorem sea_Run (h:SeaS w L k gs m rs ds W) :Calls Tryz.prog 8 #[.pointer (some ⟨gs,0,none⟩)] W fun e W'=>e=.returned (.pointer (some ⟨L.g,0,none⟩))∧Below W.heap.size W W':=by
 obtain⟨F,A,cap,h1,h2,h3,h4⟩:=h;have cc:=bC h4.xs;have zc:=lB h4.xs;clear h1 h2 h3 h4
 go_enter Tryz.func8,Tryz.ntmps8
 go_wp2_with fail;exact bR (v:=.pointer (some ⟨L.g,0,none⟩)) (by simp only [results,Tryz.results8];go_simp) rfl ⟨rfl,bE⟩
theorem sea_Len (h:SeaS w L k gs m rs ds W) :Calls Tryz.prog 10 #[.pointer (some ⟨gs,0,none⟩)] W fun e W'=>e=.returned (.int .i64 rs.length)∧Below W.heap.size W W':=by
 obtain⟨F,A,cap,h1,h2,h3,h4⟩:=h;have cc:=bC h4.xs;have zc:=lB h4.xs;clear h1 h2 h3 h4
 go_enter Tryz.func10,Tryz.ntmps10
 go_wp2_with fail;exact bR (v:=.int .i64 rs.length) (by simp only [results,Tryz.results10];go_simp) rfl ⟨rfl,bE⟩
end
structure SeaW (w:World) (L:EpL) (K:Nat) (k wt:Int) (gs q:Nat) (E:Int) (D:Nat→List Nd) (N:Nat→Int) (m:EpM) (rs ds:List RsI) (W:World) :Prop where
 s:SeaS w L k gs m rs ds W
 j:EpJ L.l K k wt L.ps E D N m
 v:WvOk L.ps.length (49*q) m.wv
 t:totN N≤q
section
variable {w W W':World} {L:EpL} {K:Nat} {k wt:Int} {gs q:Nat} {E:Int} {D:Nat→List Nd} {N:Nat→Int} {m:EpM} {rs ds:List RsI}
theorem SeaW.below (h:SeaW w L K k wt gs q E D N m rs ds W) (hb:Below W.heap.size W W') :SeaW w L K k wt gs q E D N m rs ds W':=⟨h.s.below hb,h.j,h.v,h.t⟩
theorem SeaW.ok (h:SeaW w L K k wt gs q E D N m rs ds W) :EpOk L (49*q) m:=h.j.epOk h.v
theorem SeaW.to (h:SeaW w L K k wt gs q E D N m rs ds W) (hq:q≤1000) {o:Stp} {e:Ending} (he: ∃er m',e=.returned (.int .i64 er)∧EpStep L.l L.ps m o er m'∧SeaS w L k gs m' rs ds W') (hf:o.kd=4→∀(q:Nat) y,o.i= (q:Int)→m.wv.items[q]? =some y→(decL y.2.data.toList).2=0) :
 ∃er m',e=.returned (.int .i64 er)∧EpStep L.l L.ps m o er m'∧SeaW w L K k wt gs (q+1) (gE o er E) (gD o er D) (gN o er N) m' rs ds W':=by
 obtain⟨er,m',rfl,hs,h'⟩:=he;obtain⟨k1,k2⟩:=hs.keeps h.j (by have:=h.t;omega) hf;exact⟨er,m',rfl,hs,h',k1,(hs.wave h.j h.v).mono (by omega),by have:=h.t;omega⟩
theorem SeaW.start (h:SeaW w L K k wt gs q E D N m rs ds W) (hq:q≤1000) :Calls Tryz.prog 9 #[.pointer (some ⟨L.g,0,none⟩)] W fun e W'=>∃er m',e=.returned (.int .i64 er)∧EpStep L.l L.ps m ⟨6,0,0,0,0,0⟩ er m'∧SeaW w L K k wt gs (q+1) E D N m' rs ds W':=
 (h.s.post fun F hA=>ep_Start W L m F (49*q) ⟨6,0,0,0,0,0⟩ rfl hA h.ok (by omega)).mono fun e W' he=>h.to hq he (fun h=>absurd h (by simp))
theorem SeaW.next (h:SeaW w L K k wt gs q E D N m rs ds W) (hq:q≤1000) :Calls Tryz.prog 31 #[.pointer (some ⟨L.g,0,none⟩)] W fun e W'=>∃er m',e=.returned (.int .i64 er)∧EpStep L.l L.ps m ⟨7,0,0,0,0,0⟩ er m'∧SeaW w L K k wt gs (q+1) (gE ⟨7,0,0,0,0,0⟩ er E) (gD ⟨7,0,0,0,0,0⟩ er D) (gN ⟨7,0,0,0,0,0⟩ er N) m' rs ds W':=
 (h.s.post fun F hA=>ep_Next W L m F (49*q) ⟨7,0,0,0,0,0⟩ rfl hA h.ok).mono fun e W' he=>h.to hq he (fun h=>absurd h (by simp))
theorem SeaW.put (h:SeaW w L K k wt gs q E D N m rs ds W) (hq:q≤1000) (i x c:Int) :Calls Tryz.prog 33 #[.pointer (some ⟨L.g,0,none⟩),.int .i64 i,.int .i64 x,.int .i64 c] W fun e W'=>∃er m',e=.returned (.int .i64 er)∧EpStep L.l L.ps m ⟨0,i,x,c,0,0⟩ er m'∧SeaW w L K k wt gs (q+1) E (gD ⟨0,i,x,c,0,0⟩ er D) (gN ⟨0,i,x,c,0,0⟩ er N) m' rs ds W':=
 (h.s.post fun F hA=>(ep_Put W L m F i x c hA h.ok.tree (fun y hy=>by have:=(h.ok.sen y hy).len;omega)).mono (by
   rintro e W' (⟨h1,rfl,hb⟩ | ⟨k,y,r',h1,h2,rfl,h3,h4⟩)
   ·exact .of (.put_no (o:=⟨0,i,x,c,0,0⟩) rfl h1) (.below hA hb)
   ·exact .of (.put (o:=⟨0,i,x,c,0,0⟩) rfl h1 h2 h3) h4)).mono fun e W' he=>h.to hq he (fun h=>absurd h (by simp))
end
def Ticked (n:Int) (m:EpM) :Prop:=∀x∈m.ss,n≤x.1.ti
def Still (m:EpM) :Prop:=∀(i:Nat) (x:SR),m.ss[i]? =some x→readyS x.1=false
section
variable {l K:Nat} {k wt:Int} {ps:List Int} {E:Int} {D:Nat→List Nd} {N:Nat→Int} {m m':EpM} {is:List Nat} {i j:Nat} {n:Int} {x:SR} {o:Stp} {e:Int}
theorem EpJ.root (h:EpJ l K k wt ps E D N m) : ∃x,m.ss[rootG ps]? =some x:=by
 have h1:=rightG_root h.tree;have h2:=(List.getElem?_eq_some_iff.1 h1).1;exact⟨_,List.getElem?_eq_getElem (by rw [h.len];exact h2)⟩
end
def nextM (m:EpM) :EpM:={ss:=m.ss.map nextSR,wv:=m.wv,st:=false,en:=false}
theorem EpStep.next_ok {l:Nat} {ps:List Int} {m m':EpM} {o:Stp} {e:Int} (h:EpStep l ps m o e m') (h0:o.kd=7) (hs:m.en=true) (hE:m.E≠1099511627776) :e=0∧m'=nextM m:=by
 cases h with
 |put_no h1 h2=>omega
 |put h1=>omega
 |early h1 h2 h3 h4=>omega
 |take_no h1=>omega
 |take h1=>omega
 |lose h1=>omega
 |copy h1=>omega
 |spoil h1=>omega
 |late h1 h2=>omega
 |start h1=>omega
 |next_no h1 h2=>rw [hs] at h2;cases h2
 |limit h1 h2 h3=>exact absurd h3 hE
 |next h1 h2 h3=>exact⟨rfl,rfl⟩
 |tick h1 h2 h3=>omega
theorem own_full {α:Type} {size base e n cap:Nat} {A:Option Addr} {E:Enc α size} {W:World} {l:List α} (h:Own W base e E (.slice A n cap) l) :Own W base e E (.slice A n n) l:=by
 obtain⟨rfl,h1,h2⟩:=h.len_le;rcases h with ⟨hv,rfl⟩ | ⟨g,o,c,cur,hv,hb,hh,h3,h4,h5,h6⟩
 ·cases hv
  exact .inl ⟨rfl,rfl⟩
 ·cases hv
  exact .inr ⟨g,o,l.length,cur,rfl,hb,hh,Nat.le_refl _,Nat.le_trans h3 h4,Nat.le_trans (Nat.add_le_add_left (Nat.mul_le_mul_right _ h3) _) h5,h6⟩
section
variable {w W W':World} {L:EpL} {m m':EpM} {F F':Nat→Prop} {k:Int} {gs:Nat} {rs ds:List RsI} {A:Option Addr} {cap:Nat}
theorem SeaB.push (h:SeaB w L k gs A cap rs ds F W) (hA:EpAt W L m F) {v':Value} {x:RsI} (ho:Own W' w.heap.size 79 encRs v' (rs ++ [x])) (hg:W.grownBy W' (Value.slice A rs.length rs.length).ownBlock) :
 ∃A' cap',v'=.slice A' (rs.length+1) cap'∧EpAt (W'.setCell ⟨gs,1,none⟩ v') L m F∧SeaB w L k gs A' cap' (rs ++ [x]) ds F (W'.setCell ⟨gs,1,none⟩ v'):=by
 have of:=own_full h.o
 have kb: ∀b,b<W.heap.size→(∀t,TypeAt W b t→t≠79∧t≠77)→(∃t,TypeAt W b t)→(W'.setCell ⟨gs,1,none⟩ v').heap[b]? =W.heap[b]? :=fun b hb ht ⟨t,ht2⟩=>by
  have n1:b≠gs:=by
   rintro rfl;exact(ht _ (.of h.xs)).2 rfl
  refine(Below.heap_setCell _ _ _ _ n1).trans (hg.block b hb fun e=> ?_);exact(ht _ (own_tyAt of b e.symm)).1 rfl
 have hne:=of.ne_block h.xs (by decide);have xs':W'.heap[gs]? =some (.cells #[.pointer (some ⟨L.g,0,none⟩),.slice A rs.length cap] 77 (0,0)):=(hg.block gs (lB h.xs) fun e=>hne e.symm).trans h.xs;obtain⟨A',cap',rfl,_⟩:=ho.form;rw [List.length_append,List.length_singleton] at*;refine⟨A',cap',rfl,hA.keep (by simp;exact hg.size) fun b hb=> ?_,by rw [List.length_append,List.length_singleton];exact zH (i:=1) xs' _,h.gb,by rw [List.length_append,List.length_singleton];exact ho.setCell (ho.ne_block xs' (by decide)) _,fun y hy=> ?_⟩
 ·have n1:b≠gs:=by
   rintro rfl;exact hA.notSea (.of h.xs) (.inl rfl) hb
  refine(Below.heap_setCell _ _ _ _ n1).trans (hg.block b (hA.lt b hb) fun e=> ?_);exact hA.notSea (own_tyAt of b e.symm) (.inr rfl) hb
 ·obtain⟨Fx,h1,h2⟩:=h.d y hy
  refine⟨Fx,h1.keep fun b hb=> ?_,h2⟩
  have n1:b≠gs:=by
   rintro rfl;exact h1.not_type (.of h.xs) (by decide) hb
  refine(Below.heap_setCell _ _ _ _ n1).trans (hg.block b (h1.lt b hb) fun e=> ?_);exact h1.not_type (own_tyAt of b e.symm) (by decide) hb
end
def ClosePost (w:World) (L:EpL) (K:Nat) (k wt:Int) (gs q:Nat) (E:Int) (D:Nat→List Nd) (N:Nat→Int) (m:EpM) (rs:List RsI) (e:Ending) (W':World) :Prop:=
 (e=.returned (.int .i64 22)∧m.en=false∧SeaW w L K k wt gs q E D N m rs rs W')∨
 (e=.returned (.int .i64 21)∧m.en=true∧64≤rs.length∧SeaW w L K k wt gs q E D N m rs rs W')∨
 (e=.returned (.int .i64 0)∧m.en=true∧rs.length<64∧∃x g',m.ss[rootG L.ps]? =some x∧SeaW w L K k wt gs (q+1) (E+1) (fun _=> []) (fun _=>0) (nextM m) (rs ++ [⟨g',x.1.cover,x.2⟩]) (rs ++ [⟨g',x.1.cover,x.2⟩]) W')
theorem slice_full (c:Prop) [Decidable c] (A:Option Addr) (n m:Nat) :Value.slice (if c then A else Option.map (fun x=>x.add 0) A) n m=Value.slice A n m:=by
 split
 ·rfl
 ·cases A with
  |none=>rfl
  |some a=>cases a;rfl
theorem slice_full2 (c:Prop) [Decidable c] (A:Option Addr) (z n m:Nat) :Value.slice (if c then A else Option.map (fun x=>x.add (0*z)) A) n m=Value.slice A n m:=by
 rw [Nat.zero_mul,slice_full]
section
attribute [local go_sem] slice_full slice_full2
theorem sea_Close (w W:World) (L:EpL) (K:Nat) (k wt:Int) (gs q:Nat) (E:Int) (D:Nat→List Nd) (N:Nat→Int) (m:EpM) (rs:List RsI) (h:SeaW w L K k wt gs q E D N m rs rs W) (hq:q≤1000) (hE:E≠1099511627776) :
 Calls Tryz.prog 7 #[.pointer (some ⟨gs,0,none⟩)] W (ClosePost w L K k wt gs q E D N m rs):=by
 have HH:=LH h
 have hxs: ∃A cap,W.heap[gs]? =some (.cells #[.pointer (some ⟨L.g,0,none⟩),.slice A rs.length cap] 77 (0,0)):=by
  obtain⟨F,A,cap,h1,h2,h3,h4⟩:=h.s;exact⟨A,cap,h4.xs⟩
 obtain⟨A,cap,hx0⟩:=hxs;have X0:=LH hx0;have cc:=bC hx0;have zc:=lB hx0
 cases hen:m.en
 ·have HR:=LH (h.s.ep.result_no hen)
  have HP:Hid (∀W',Below W.heap.size W W'→ClosePost w L K k wt gs q E D N m rs (.returned (.int .i64 22)) W'):=LH fun W' hb=>.inl ⟨rfl,hen,HH.out.below hb⟩;clear h hx0 hen;generalize ClosePost w L K k wt gs q E D N m rs=PP at*
  go_enter Tryz.func7,Tryz.ntmps7
  go_wp2_with fail;refine HR.out.mono ?_;rintro e w1 ⟨rfl,hb1⟩;have H1:=LH (HP.out _ hb1);clear hb1 HR HP;go_wp2_with fail;exact H1.out
 ·obtain⟨x,hx⟩:=h.j.root
  have hR:=h.j.tree;have hj:=h.j.s _ _ hx;have hres:=h.s.ep.result hR hen hx;unfold ResPost at hres;rw [hj.k_] at hres;have HR:=LH hres;have hmE:m.E≠1099511627776:=by rw [h.j.epo];exact hE
  have HEn:=LH hen;have HP1:Hid (64≤rs.length→∀W',Below W.heap.size W W'→ClosePost w L K k wt gs q E D N m rs (.returned (.int .i64 21)) W'):=LH fun hl W' hb=>.inr (.inl ⟨rfl,HEn.out,hl,HH.out.below hb⟩);have HP2:Hid (rs.length<64→∀g' W',SeaW w L K k wt gs (q+1) (E+1) (fun _=> []) (fun _=>0) (nextM m) (rs ++ [⟨g',x.1.cover,x.2⟩]) (rs ++ [⟨g',x.1.cover,x.2⟩]) W'→ClosePost w L K k wt gs q E D N m rs (.returned (.int .i64 0)) W'):=LH fun hl g' W' hs=>.inr (.inr ⟨rfl,HEn.out,hl,x,g',hx,hs⟩)
  have HNx:Hid (∀W1 W2 g' F',Below W.heap.size W W1→DigAt W1 g' L.K L.l k x.2 F'→(∀b,F' b→W.heap.size≤b)→Below W1.heap.size W1 W2→Calls Tryz.prog 31 #[.pointer (some ⟨L.g,0,none⟩)] W2 fun e W'=>e=.returned (.int .i64 0)∧SeaW w L K k wt gs (q+1) (E+1) (fun _=> []) (fun _=>0) (nextM m) rs (rs ++ [⟨g',x.1.cover,x.2⟩]) W'):=LH fun W1 W2 g' F' hb hd hn hb2=>by
   have h2:SeaW w L K k wt gs q E D N m rs (rs ++ [⟨g',x.1.cover,x.2⟩]) W1:=⟨HH.out.s.more (x:=⟨g',x.1.cover,x.2⟩) hb hd hn,HH.out.j,HH.out.v,HH.out.t⟩;refine((h2.below hb2).next hq).mono ?_;rintro e W' ⟨er,m',rfl,hs,h'⟩;obtain⟨rfl,rfl⟩:=hs.next_ok rfl HEn.out hmE;exact⟨rfl,h'⟩
  have HLt:Hid (rs.length≤maxLen):=LH (by
   obtain⟨F,A,cap,h1,h2,h3,h4⟩:=h.s;exact Nat.le_trans h4.o.len_le.2.1 h4.o.len_le.2.2)
  clear h hx0 hen hx hR hj hres hmE;generalize ClosePost w L K k wt gs q E D N m rs=PP at*;generalize x.1.cover=cv at*;generalize x.2=rr at*;by_cases hl:64≤rs.length
  ·have d1:decide ((64:Int)≤(rs.length:Int)) =true:=by simp;omega
   have HP:=LH (HP1.out hl);clear hl HP1 HP2 HNx
   go_enter Tryz.func7,Tryz.ntmps7
   go_wp2_with fail;refine HR.out.mono ?_;rintro e w1 ⟨g',F',rfl,hd,hn,hb1⟩;have H1:=LH (HP.out _ hb1);have X1:=LH (bB X0.out hb1);clear hb1 HR HP hd hn cc zc;have cc:=bC X1.out;have zc:=lB X1.out;go_wp2_with fail;exact H1.out
  ·have d1:decide ((64:Int)≤(rs.length:Int)) =false:=by simp;omega
   have HP:=LH (HP2.out (by omega));have hl2:rs.length<64:=by omega
   have HL2:=LH hl2;clear hl hl2 HP1 HP2
   go_enter Tryz.func7,Tryz.ntmps7
   go_wp2_with fail;refine HR.out.mono ?_;rintro e w1 ⟨g',F',rfl,hd,hn,hb1⟩;have HN:=LH (HNx.out w1 w1 g' F' hb1 hd hn (Below.refl _ _));have X1:=LH (bB X0.out hb1);clear hb1 HR hd hn cc zc HNx X0;have cc:=bC X1.out;have zc:=lB X1.out;go_wp2_with fail;refine HN.out.mono ?_;rintro e w2 ⟨rfl,hs⟩;obtain⟨⟨F,A2,cap2,h1,h2,h3,h4⟩,j1,v1,t1⟩:=hs;have OF:=LH (own_full h4.o);have hlc:=(h4.o.len_le).2.1;have hlc2: (rs.length:Int)≤(cap2:Int):=by omega
   have hsz:=h3.size;have HPu:=LH (fun W' v' (ho:Own W' w.heap.size 79 encRs v' (rs ++ [⟨g',cv,rr⟩])) hg=>h4.push h1 (W':=W') (v':=v') ho hg);have HJ:=LH (And.intro j1 (And.intro v1 t1));have HF:=LH (And.intro h2 h3);have hgb:=h4.gb;have X2:=LH h4.xs;clear cc zc HN X1 h1 h2 h3 h4 j1 v1 t1;have cc:=bC X2.out;have fc:=bF X2.out;have zc:=lB X2.out;go_upto_region 12 with fail;have hl2:=HL2.out;go_wp2_with ((at_builtin;refine wpList_push tyRs rfl _ _ rfl encRs w2 w.heap.size _ rs rfl OF.out ⟨g',cv,rr⟩ (by go_simp) rfl ?c1 ?c2 ?c3 ?c4))
   case c1=>omega
   case c2=>simp [maxLen];omega
   case c3=>exact hsz
   case c4=>
    intro v' w3 ho' hg' _ hv' hb' _;have k3:=(hg'.block gs (lB X2.out) fun e=>OF.out.ne_block X2.out (by decide) e.symm).trans X2.out;obtain⟨A3,cap3,rfl,hA3,hS3⟩:=HPu.out w3 v' ho' hg';have HFin:=LH (HP.out g' _ ⟨⟨F,A3,cap3,hA3,HF.out.1,Below.setCell (p:=⟨gs,1,none⟩) (HF.out.2.trans hb') hgb _,hS3⟩,HJ.out.1,HJ.out.2.1,HJ.out.2.2⟩);clear cc fc zc hv' hb' hg' ho' hA3 hS3 HP HPu HF HJ OF;have cc:=bC k3;have fc:=bF k3;have zc:=lB k3;go_wp2_with fail;exact HFin.out
end
def psO:List Int:= [-1]
theorem psO_right:rightG psO=true:=by decide
theorem psO_order:orderG psO= [0]:=by decide
theorem psO_root:rootG psO=0:=by decide
theorem psO_new:newS 4 2 2 (plcE psO 1 0) 0=true:=by decide
def sO (e:Int) :Sen:=senNew 4 2 2 (plcE psO 1 0) e
def mO (e:Int) (r:List Nd) :EpM:=⟨[(sO e,r)],⟨0,0,0,0,0, []⟩,false,false⟩
def mO2 (e:Int) (r:List Nd) :EpM:=⟨[(sentS (sO e),r)],⟨0,0,0,0,0, []⟩,true,true⟩
theorem run_zero {l:Nat} {r s:List Nd} {ps:List Int} (hr: ∀p,0≤getR r p) (h:RunTo l 0 r ps s) :s=r:=by
 have hd: ∀p,readyR l r p 0=false:=fun p=>by
  cases hb:readyR l r p 0
  ·rfl
  ·have:=(ready_iff.1 hb).2
   have:=hr p;omega
 exact(RunTo.unique (.done hd) h).2.symm
theorem get_one (p:Int) :0≤getR [(21,1)] p:=by
 simp only [getR]
 split <;> decide
theorem ready_O (e:Int) :readyS (sO e) =true:=by
 have h1: (sO e).heard= (sO e).p.kids:=(by decide: (0:Nat) =kidsC psO ((0:Nat) :Int));unfold readyS;rw [decide_eq_true h1]
 rfl
theorem start_O {e:Int} {r:List Nd} {er:Int} {m':EpM} (hr: ∀p,0≤getR r p) (hs:sumR r / 2=0) (h:EpStep 4 psO (mO e r) ⟨6,0,0,0,0,0⟩ er m') :er=0∧m'=mO2 e r:=by
 obtain⟨rfl,ho⟩:=h.start_inv rfl rfl;refine⟨rfl,?_⟩;rw [psO_order] at ho;obtain⟨m1,h1,h2⟩:=OnTo.snoc_inv (is:= []) ho;have:=h1.nil_inv;subst this;obtain⟨pl,r',hrun,rfl⟩:=h2.send_inv (x:=(sO e,r)) rfl (ready_O e);have hk: (sO e).k=2:=rfl;rw [hk,hs] at hrun;have:=run_zero hr hrun;subst this
 rfl
theorem put_O {e:Int} {er:Int} {m':EpM} (h:EpStep 4 psO (mO e []) ⟨0,0,5,1,0,0⟩ er m') :er=0∧m'=mO e [(21,1)]:=by
 obtain⟨r',hp,rfl,rfl⟩:=h.put_inv rfl (i:=0) (x:=(sO e, [])) rfl rfl rfl
 have h0:putErr 4 (sO e) [] 5 1=0:=by
  unfold putErr;rw [if_neg (show ¬(sO e).sent=true by exact fun h=>absurd h (by decide: ¬false=true))]
  decide
 refine⟨h0,?_⟩;rcases hp with ⟨h1,_⟩ | ⟨_,h1⟩
 ·exact absurd (show false=true from h1) (by decide)
 rcases h1 with ⟨h2,_⟩ | ⟨_,s,h2,rfl⟩
 ·exact absurd (by decide:insErr 4 [] 5 1=0) h2
 rcases h2 with ⟨_,h3,_⟩ | ⟨_,rfl⟩
 ·exact absurd (show (8:Int) *2≤0 from h3) (by decide)
 ·rfl
theorem next_O {e:Int} (he:e≠1099511627776) (r:List Nd) :nextM (mO2 e r) =mO (e+1) []:=by
 unfold nextM mO2 mO nextSR;simp only [List.map_cons,List.map_nil]
 have h1:nextS (sentS (sO e)) =sO (e+1):=by
  unfold nextS;rw [if_neg (show ¬(sentS (sO e)).ep=1099511627776 from he)]
  rfl
 have h2:nextR (sentS (sO e)) r= []:=by
  unfold nextR;exact if_neg (show ¬(sentS (sO e)).ep=1099511627776 from he)
 rw [h1,h2]
theorem end_O (e:Int) (r:List Nd) : (mO2 e r).ss[rootG psO]? =some (sentS (sO e),r):=by rw [psO_root];rfl
theorem SeaW.new {w W:World} {L:EpL} {K l:Nat} {k wt:Int} {ps:List Int} (h:EpS w L (epNew ps l k K wt 0) W) (h1:L.ps=ps) (h2:L.l=l) (hR:rightG ps=true) (hN:newS l k K (plcE ps wt 0) 0=true) :
 SeaW w L K k wt W.heap.size 0 0 (fun _=> []) (fun _=>0) (epNew ps l k K wt 0) [] [] (W.alloc (.cells #[.pointer (some ⟨L.g,0,none⟩),.slice none 0 0] 77)):=by
 have hw:=EpW.new h h1 h2 hR hN;obtain⟨F,g1,g2,g3⟩:=h;have hb:=(Below.refl W.heap.size W).alloc (Nat.le_refl _) (.cells #[.pointer (some ⟨L.g,0,none⟩),.slice none 0 0] 77);exact⟨⟨F,none,0,g1.below hb,g2,Below.then_ g3 hb,heap_alloc_new _ _,g3.size,Own.nil _ _ _ _,fun x hx=>by cases hx⟩,hw.j,hw.v,hw.t⟩
theorem sea_New (w:World) (A:Option Addr) (cap:Nat) (ps:List Int) (l K:Nat) (k wt:Int) (hS:Sl w w.heap.size encZ A ps) (hT:TabZ w) (hR:rightG ps=true) (hN:newS l k K (plcE ps wt 0) 0=true) :
 Calls Tryz.prog 6 #[.slice A ps.length cap,confV l k K,.int .i64 wt] w fun e W'=>∃L gs,e=.returned (.tuple #[.pointer (some ⟨gs,0,none⟩),.int .i64 0])∧L.ps=ps∧L.l=l∧L.K=K∧SeaW w L K k wt gs 0 0 (fun _=> []) (fun _=>0) (epNew ps l k K wt 0) [] [] W':=by
 have b0:Below w.heap.size w (w.alloc (.cells #[.int .i64 l,.int .i64 k,.int .i64 K] 28)):=bE
 have HN0:Hid (Calls Tryz.prog 30 #[.slice A ps.length cap,.agg #[.int .i64 l,.int .i64 k,.int .i64 K],.int .i64 wt,.int .i64 0] (w.alloc (.cells #[.int .i64 l,.int .i64 k,.int .i64 K] 28)) fun e W=>∃L,e=.returned (.tuple #[.pointer (some ⟨L.g,0,none⟩),.int .i64 0])∧L.ps=ps∧L.l=l∧L.K=K∧SeaW w L K k wt W.heap.size 0 0 (fun _=> []) (fun _=>0) (epNew ps l k K wt 0) [] [] (W.alloc (.cells #[.pointer (some ⟨L.g,0,none⟩),.slice none 0 0] 77))):=LH ((ep_New _ A cap ps l K k wt 0 (hS.keep b0.size fun p hp=>b0.cell hp) (hT.below b0) hR hN).mono fun e W h=>by
  obtain⟨L,rfl,h1,h2,h3,h4⟩:=EpS.new h b0;exact⟨L,rfl,h2,h3,h4,SeaW.new h1 h2 h3 hR hN⟩)
 unfold confV;clear hS hT hR hN b0;generalize epNew ps l k K wt 0=m at*
 go_enter Tryz.func6,Tryz.ntmps6
 go_wp2_with fail;refine HN0.out.mono ?_;rintro e w1 ⟨L,rfl,h1,h2,h3,h4⟩;have H1:=LH (And.intro h1 (And.intro h2 (And.intro h3 h4)));clear h1 h2 h3 h4 HN0;go_wp2_with fail;exact bR (v:=.tuple #[.pointer (some ⟨w1.heap.size,0,none⟩),.int .i64 0]) (by simp only [results,Tryz.results6];go_simp) rfl ⟨L,w1.heap.size,rfl,H1.out⟩
def SO (w:World) (L:EpL) (gs q:Nat) (e:Int) (m:EpM) (rs:List RsI) (W:World) :Prop:=L.ps=psO∧L.l=4∧L.K=2∧∃D N,SeaW w L 2 2 1 gs q e D N m rs rs W
section
variable {w W W':World} {L:EpL} {gs q:Nat} {e:Int} {m:EpM} {rs:List RsI} {r:List Nd}
theorem SO.below (h:SO w L gs q e m rs W) (hb:Below W.heap.size W W') :SO w L gs q e m rs W':=by
 obtain⟨h1,h2,h3,D,N,h4⟩:=h;exact⟨h1,h2,h3,D,N,h4.below hb⟩
theorem SO.sea (h:SO w L gs q e m rs W) :SeaS w L 2 gs m rs rs W:=by
 obtain⟨h1,h2,h3,D,N,h4⟩:=h;exact h4.s
theorem SO.blw (h:SO w L gs q e m rs W) :Below w.heap.size w W:=h.sea.blw
theorem SO.put (h:SO w L gs q e (mO e []) rs W) (hq:q≤1000) :Calls Tryz.prog 33 #[.pointer (some ⟨L.g,0,none⟩),.int .i64 0,.int .i64 5,.int .i64 1] W fun en W'=>en=.returned (.int .i64 0)∧SO w L gs (q+1) e (mO e [(21,1)]) rs W':=by
 obtain⟨h1,h2,h3,D,N,h4⟩:=h;refine(h4.put hq 0 5 1).mono ?_;rintro en W' ⟨er,m',rfl,hs,h'⟩;rw [h1,h2] at hs;obtain⟨rfl,rfl⟩:=put_O hs;exact⟨rfl,h1,h2,h3,_,_,h'⟩
theorem SO.start (h:SO w L gs q e (mO e r) rs W) (hq:q≤1000) (hr: ∀p,0≤getR r p) (h0:sumR r / 2=0) :Calls Tryz.prog 9 #[.pointer (some ⟨L.g,0,none⟩)] W fun en W'=>en=.returned (.int .i64 0)∧SO w L gs (q+1) e (mO2 e r) rs W':=by
 obtain⟨h1,h2,h3,D,N,h4⟩:=h;refine(h4.start hq).mono ?_;rintro en W' ⟨er,m',rfl,hs,h'⟩;rw [h1,h2] at hs;obtain⟨rfl,rfl⟩:=start_O hr h0 hs;exact⟨rfl,h1,h2,h3,_,_,h'⟩
theorem SO.early (h:SO w L gs q e (mO e r) rs W) (hq:q≤1000) (he:e≠1099511627776) :Calls Tryz.prog 7 #[.pointer (some ⟨gs,0,none⟩)] W fun en W'=>en=.returned (.int .i64 22)∧SO w L gs q e (mO e r) rs W':=by
 obtain⟨h1,h2,h3,D,N,h4⟩:=h;refine(sea_Close w W L 2 2 1 gs q e D N (mO e r) rs h4 hq he).mono ?_;rintro en W' (⟨rfl,_,h'⟩ | ⟨rfl,hen,_⟩ | ⟨rfl,hen,_⟩)
 ·exact⟨rfl,h1,h2,h3,_,_,h'⟩
 ·exact absurd (show false=true from hen) (by decide)
 ·exact absurd (show false=true from hen) (by decide)
theorem SO.close (h:SO w L gs q e (mO2 e r) rs W) (hq:q≤1000) (he:e≠1099511627776) :Calls Tryz.prog 7 #[.pointer (some ⟨gs,0,none⟩)] W fun en W'=>
 (en=.returned (.int .i64 21)∧64≤rs.length∧SO w L gs q e (mO2 e r) rs W')∨(en=.returned (.int .i64 0)∧rs.length<64∧∃g',SO w L gs (q+1) (e+1) (mO (e+1) []) (rs ++ [⟨g',1,r⟩]) W'):=by
 obtain⟨h1,h2,h3,D,N,h4⟩:=h;refine(sea_Close w W L 2 2 1 gs q e D N (mO2 e r) rs h4 hq he).mono ?_;rintro en W' (⟨rfl,hen,h'⟩ | ⟨rfl,hen,hl,h'⟩ | ⟨rfl,hen,hl,x,g',hx,h'⟩)
 ·exact absurd (show true=false from hen) (by decide)
 ·exact .inl ⟨rfl,hl,h1,h2,h3,_,_,h'⟩
 ·rw [h1,end_O] at hx
  cases hx
  rw [next_O he] at h';exact .inr ⟨rfl,hl,g',h1,h2,h3,_,_,h'⟩
end
structure ReachP (L:List Nd) (k z:Int) :Prop where
 mem: ∃y∈L,y.1=z
 up:k≤wUp L z
 less: ∀y,y<z→wUp L y<k
theorem wUp_nonneg {L:List Nd} (h: ∀y∈L,1≤y.2) (x:Int) :0≤wUp L x:=by
 induction L with
 |nil=>simp [wUp]
 |cons y L ih=>
  have:=h y (by simp);have:=ih fun z hz=>h z (by simp [hz]);simp only [wUp]
  split <;> omega
theorem wUp_le_sum {L:List Nd} (h: ∀y∈L,1≤y.2) (x:Int) :wUp L x≤sumR L:=by
 induction L with
 |nil=>simp [wUp,sumR]
 |cons y L ih=>
  have:=h y (by simp);have:=ih fun z hz=>h z (by simp [hz]);simp only [wUp,sumR]
  split <;> omega
theorem wUp_split (l:List Nd) (i:Nat) (y:Int) :wUp l y=wUp (l.take i) y+wUp (l.drop i) y:=by rw [←wUp_append,List.take_append_drop]
theorem reach_at {l:List Nd} (h1: ∀y∈l,1≤y.2) (hs:l.Pairwise fun a b=>a.1≤b.1) {i:Nat} (hi:i<l.length) {k:Int} (ha:sumR (l.take i) <k) (hb:k≤sumR (l.take (i+1))) :ReachP l k l[i].1:=by
 have hp:=List.pairwise_iff_getElem.1 hs;refine⟨⟨l[i],List.getElem_mem hi,rfl⟩,?_,fun y hy=> ?_⟩
 ·have e2:=wUp_split l (i+1) l[i].1
  have e3:wUp (l.take (i+1)) l[i].1=sumR (l.take (i+1)):=wUp_all fun z hz=>by
   obtain⟨j,hj,rfl⟩:=List.getElem_of_mem hz;rw [List.length_take] at hj;rw [List.getElem_take];rcases Nat.lt_or_ge j i with hlt|hge
   ·exact hp j i (by omega) hi hlt
   ·obtain rfl:j=i:=by omega
    exact Int.le_refl _
  have e4:=wUp_nonneg (L:=l.drop (i+1)) (fun z hz=>h1 z (List.mem_of_mem_drop hz)) l[i].1;omega
 ·have e2:=wUp_split l i y
  have e3:wUp (l.drop i) y=0:=wUp_none fun z hz=>by
   obtain⟨j,hj,rfl⟩:=List.getElem_of_mem hz;rw [List.length_drop] at hj;rw [List.getElem_drop];rcases Nat.lt_or_ge 0 j with hlt|hge
   ·have:=hp i (i+j) hi (by omega) (by omega);omega
   ·obtain rfl:j=0:=by omega
    simpa using hy
  have e4:=wUp_le_sum (L:=l.take i) (fun z hz=>h1 z (List.mem_of_mem_take hz)) y;omega
theorem ReachP.perm {L L':List Nd} {k z:Int} (h:ReachP L k z) (hp:L.Perm L') :ReachP L' k z:=
 ⟨by obtain⟨y,hy,e⟩:=h.mem;exact⟨y,hp.mem_iff.1 hy,e⟩,by rw [←wUp_perm hp];exact h.up,fun y hy=>by rw [←wUp_perm hp];exact h.less y hy⟩
def bestStep (L:List Nd) (k:Int) (b:Int) (x:Nd) :Int:=if k≤wUp L x.1∧(b<0∨x.1<b) then x.1 else b
def bestOf (L:List Nd) (k:Int) :Int:=L.foldl (bestStep L k) (-1)
theorem best_fold (L:List Nd) (k:Int) (p:List Nd) (h0: ∀y∈p,0≤y.1) : ∀b,(b= -1∨0≤b)→
 (p.foldl (bestStep L k) b=b∨(∃y∈p,y.1=p.foldl (bestStep L k) b∧k≤wUp L y.1))∧(0≤b→p.foldl (bestStep L k) b≤b∧0≤p.foldl (bestStep L k) b)∧(∀y∈p,k≤wUp L y.1→0≤p.foldl (bestStep L k) b∧p.foldl (bestStep L k) b≤y.1):=by
 induction p with
 |nil=>intro b hb;exact⟨.inl rfl,fun h=>⟨Int.le_refl _,h⟩,fun y hy=>by simp at hy⟩
 |cons x p ih=>
  intro b hb;have hx:=h0 x (by simp);rw [List.foldl_cons];by_cases hc:k≤wUp L x.1∧(b<0∨x.1<b)
  ·have e:bestStep L k b x=x.1:=if_pos hc
   rw [e];obtain⟨i1,i2,i3⟩:=ih (fun y hy=>h0 y (by simp [hy])) x.1 (.inr hx);have i2:=i2 hx;refine⟨.inr ?_,fun hb0=>⟨by omega,i2.2⟩,fun y hy hk=> ?_⟩
   ·rcases i1 with i1| ⟨y,hy,e1,e2⟩
    ·exact⟨x,by simp,i1.symm,hc.1⟩
    ·exact⟨y,by simp [hy],e1,e2⟩
   ·rcases List.mem_cons.1 hy with rfl|hy
    ·exact⟨i2.2,i2.1⟩
    ·exact i3 y hy hk
  ·have e:bestStep L k b x=b:=if_neg hc
   rw [e];obtain⟨i1,i2,i3⟩:=ih (fun y hy=>h0 y (by simp [hy])) b hb;refine⟨?_,i2,fun y hy hk=> ?_⟩
   ·rcases i1 with i1| ⟨y,hy,e1,e2⟩
    ·exact .inl i1
    ·exact .inr ⟨y,by simp [hy],e1,e2⟩
   ·rcases List.mem_cons.1 hy with rfl|hy
    ·have hb0:0≤b:=by omega
     have:=i2 hb0;exact⟨this.2,by omega⟩
    ·exact i3 y hy hk
theorem best_reach {L:List Nd} (h0: ∀y∈L,0≤y.1) (h1: ∀y∈L,1≤y.2) {k:Int} (hk:1≤k) {z:Int} (h:ReachP L k z) :bestOf L k=z:=by
 obtain⟨y,hy,e⟩:=h.mem;obtain⟨i1,_,i3⟩:=best_fold L k L h0 (-1) (.inl rfl);have h2:=i3 y hy (by rw [e];exact h.up);rcases i1 with i1| ⟨u,hu,e1,e2⟩
 ·rw [i1] at h2;omega
 ·show L.foldl (bestStep L k) (-1) =z
  rw [e] at h2;rcases Int.lt_trichotomy (L.foldl (bestStep L k) (-1)) z with hlt|heq|hgt
  ·have:=h.less _ hlt
   rw [←e1] at this;omega
  ·exact heq
  ·omega
def cmpI (a b:Int) :Int:=if a<b then -1 else if b<a then 1 else 0
theorem cmp_isNaN (w:World) (a:Int) :Calls Tryz.prog 228 #[.int .i64 a] w fun e w'=>e=.returned (.bool false)∧w'=w:=by
 go_enter Tryz.func228,Tryz.ntmps228
 go_wp2_with fail;go_ret;exact⟨by simp,rfl⟩
theorem cmp_Compare (w:World) (a b:Int) :Calls Tryz.prog 178 #[.int .i64 a,.int .i64 b] w fun e w'=>e=.returned (.int .i64 (cmpI a b))∧w'=w:=by
 rcases Int.lt_trichotomy a b with h|rfl|h
 ·rw [show cmpI a b= -1 by unfold cmpI;rw [if_pos h]]
  go_enter Tryz.func178,Tryz.ntmps178
  go_wp2_with (go_at_call 228;refine(cmp_isNaN _ _).mono ?_;rintro e w' ⟨rfl,rfl⟩);go_ret;exact⟨rfl,rfl⟩
 ·rw [show cmpI a a=0 by unfold cmpI;rw [if_neg (by omega),if_neg (by omega)]]
  have h1: ¬a<a:=by omega
  go_enter Tryz.func178,Tryz.ntmps178
  go_wp2_with (go_at_call 228;refine(cmp_isNaN _ _).mono ?_;rintro e w' ⟨rfl,rfl⟩);go_ret;exact⟨rfl,rfl⟩
 ·rw [show cmpI a b=1 by unfold cmpI;rw [if_neg (by omega),if_pos h]]
  have h1: ¬a<b:=by omega
  go_enter Tryz.func178,Tryz.ntmps178
  go_wp2_with (go_at_call 228;refine(cmp_isNaN _ _).mono ?_;rintro e w' ⟨rfl,rfl⟩);go_ret;exact⟨rfl,rfl⟩
theorem reach_cmp (W:World) (x y:Nd) :Calls Tryz.prog 177 #[.agg #[.int .i64 x.1,.int .i64 x.2],.agg #[.int .i64 y.1,.int .i64 y.2]] W fun e W'=>e=.returned (.int .i64 (cmpI x.1 y.1))∧∃q os',W'=Go.Sort.grow (W.drewN q) os':=by
 go_enter Tryz.func177,Tryz.ntmps177
 go_wp2_with fail;refine(cmp_Compare _ _ _).mono ?_;rintro e w1 ⟨rfl,rfl⟩;go_wp2_with fail;go_ret;refine⟨rfl,0, #[.cells #[.int .i64 x.1,.int .i64 x.2] 249,.cells #[.int .i64 y.1,.int .i64 y.2] 249],?_⟩;rw [Go.Sort.alloc_eq_grow,Go.Sort.alloc_eq_grow,Go.Sort.grow_grow]
 rfl
theorem cmpI_lt (a b:Int) :cmpI a b<0↔a<b:=by unfold cmpI;split <;> (try split) <;> omega
theorem swo_N:Go.Sort.SWO (Go.Proofs.ltOf fun x y:Nd=>cmpI x.1 y.1) where
 irrefl x:=by simp only [Go.Proofs.ltOf,decide_eq_false_iff_not,cmpI_lt];omega
 trans x y z h1 h2:=by simp only [Go.Proofs.ltOf,decide_eq_true_eq,cmpI_lt] at*;omega
 ntrans x y z h1 h2:=by simp only [Go.Proofs.ltOf,decide_eq_false_iff_not,cmpI_lt] at*;omega
theorem enters_reach: ∀args W,(callFunc 177 args).run Tryz.prog W=.ok (.enter 177 args) W:=enters_of Tryz.func177 (by kernel_rfl) rfl
theorem reach_sort (w:World) (base:Nat) (v:Value) (l:List Nd) (ho:Own w base 249 encN v l) (hm:l.length≤67108864) :
 Calls Tryz.prog 176 #[v,.func (.func 177) #[] #[]] w fun en w'=>en=.returned (.tuple #[])∧∃l',l'.Perm l∧l'.Pairwise (fun a b=>a.1≤b.1)∧Own w' base 249 encN v l'∧Turn (fun b=>v.ownBlock=some b) w w':=by
 refine Calls.mono (sortFunc_own Tryz.sortEnd encN (by intro w;kernel_rfl) (by intro w;kernel_rfl) (fun x y:Nd=>cmpI x.1 y.1) swo_N 177 #[] enters_reach w base 249 v l ho (by omega) (fun W _ x y=>reach_cmp W x y)) ?_;rintro e w' ⟨rfl,l',hp,hs,ho',hT⟩;refine⟨rfl,l',hp,hs.imp fun {a b} h=> ?_,ho',hT⟩;simp only [Go.Proofs.ltOf,decide_eq_false_iff_not,cmpI_lt] at h;omega
def QReach (v:Value) (l:List Nd) (k:Int) (w:World) (e:Ending) (w':World) :Prop:=∃z,e=.returned (.int .i64 z)∧ReachP l k z∧Turn (fun b=>v.ownBlock=some b) w w'
theorem quant_reach (w:World) (base:Nat) (v:Value) (l:List Nd) (k:Int) (ho:Own w base 249 encN v l) (h1: ∀x∈l,1≤x.2) (hk:1≤k) (hks:k≤sumR l) (hs:sumR l≤72057594037927935) (hm:l.length≤67108864) :
 Calls Tryz.prog 125 #[v,.int .i64 k] w (QReach v l k w):=by
 have HO:=LH ho;have H1:=LH h1;clear ho h1
 go_enter Tryz.func125,Tryz.ntmps125
 go_wp2_with fail;refine(reach_sort _ base v l HO.out hm).mono ?_;rintro e w1 ⟨rfl,l',hp,hsrt,ho1,hT⟩;have HP:=LH hp;have HSo:=LH hsrt;have HO1:=LH ho1;have HT:=LH hT;have HLen:=LH hp.length_eq;have hsum:sumR l'=sumR l:=sumR_perm hp;have HSum:=LH hsum;have h1':Hid (∀z∈l',1≤z.2):=LH fun z hz=>H1.out z (hp.mem_iff.1 hz);have hlm:l'.length≤67108864:=by have:=HLen.out;omega
 have hl0:0<l'.length:=by
  rcases Nat.eq_zero_or_pos l'.length with h0|h0
  ·have:=List.eq_nil_of_length_eq_zero h0;rw [this] at hsum;simp [sumR] at hsum;omega
  ·exact h0
 clear hp hsrt ho1 hT hsum;obtain⟨A,cap,rfl,_⟩:=HO1.out.form;go_wp2_with fail
 go_loop [1,5] (fun r a=>∃i:Nat,i<l'.length∧a=.int .i64 i∧r=.int .i64 (k - sumR (l'.take i))∧sumR (l'.take i) <k) (fun _ a=>l'.length - (intOf a).toNat)
 case atStart=>exact⟨0,hl0,rfl,by simp [sumR],by simp [sumR];omega⟩
 case round=>
  obtain⟨i,hi,rfl,rfl,hlt⟩:=hrel;obtain⟨c,off,rfl,hc,hcl⟩:=HO1.out.sl.at_ hi;have d0:=hcl 0 (.int .i64 l'[i].1) rfl;have d1:=hcl 1 (.int .i64 l'[i].2) rfl;simp only [Nat.add_zero] at d0;have e1:=sumR_take_succ hi;have sp:=sum_part h1'.out hi;have hx1:=h1'.out _ (List.getElem_mem hi);have hss:=HSum.out;have RA:=LH (fun h=>reach_at h1'.out HSo.out hi hlt h);have hint: (i:Int) < (l'.length:Int):=by omega
  obtain⟨x,hxe⟩ : ∃x,x=l'[i]:=⟨_,rfl⟩;rw [←hxe] at d0 d1 e1 sp hx1 RA;have HE:=LH e1;obtain⟨n,hn⟩ : ∃n,n=sumR (l'.take i):=⟨_,rfl⟩;rw [←hn] at sp hlt HE⊢;clear hcl hxe e1 hn hss;by_cases hgt:n+x.2<k
  ·have hd:decide (x.2<k - n) =true:=by simp;omega
   have hi2:i+1<l'.length:=by
    rcases Nat.lt_or_ge (i+1) l'.length with h|h
    ·exact h
    ·have h2:l'.take (i+1) =l':=List.take_of_length_le h
     have h3:=HE.out;rw [h2] at h3;have:=HSum.out;omega
   go_wp2_with fail
   go_round
   case rel=>exact⟨i+1,hi2,by go_num,by rw [HE.out];go_num,by rw [HE.out];exact hgt⟩
   case measure=>simp [intOf];omega
  ·have hd:decide (x.2<k - n) =false:=by simp;omega
   go_wp2_with fail;go_ret;exact⟨x.1,rfl,(RA.out (by rw [HE.out];omega)).perm HP.out,HT.out⟩
def TabAt (w:World) (L B g:Nat) (n:Int) (lt ft:List Nd) :Prop:=
 L≤g∧g<B∧∃A1 c1 A2 c2 A3 c3 A4 c4,w.heap[g]? =some (.cells #[.int .i64 n,.slice A1 lt.length c1,.slice A2 lt.length c2,.slice A3 ft.length c3,.slice A4 ft.length c4] 213 (0,0))∧
  (Own w L 3 encZ (.slice A1 lt.length c1) (lt.map (·.1))∧Own w L 3 encZ (.slice A2 lt.length c2) (lt.map (·.2))∧Own w L 3 encZ (.slice A3 ft.length c3) (ft.map (·.1))∧Own w L 3 encZ (.slice A4 ft.length c4) (ft.map (·.2)))∧
  ∀A n c,(A,n,c)∈ [(A1,lt.length,c1),(A2,lt.length,c2),(A3,ft.length,c3),(A4,ft.length,c4)]→∀k,(Value.slice A n c).ownBlock=some k→k<B
section
variable {w w':World} {L B g:Nat} {n:Int} {lt ft:List Nd}
theorem TabAt.keep (h:TabAt w L B g n lt ft) (hk: ∀b,L≤b→b<B→w'.heap[b]? =w.heap[b]?) :TabAt w' L B g n lt ft:=by
 obtain⟨h0,h0',A1,c1,A2,c2,A3,c3,A4,c4,h1,⟨h2,h3,h4,h5⟩,h6⟩:=h;refine⟨h0,h0',A1,c1,A2,c2,A3,c3,A4,c4,(hk g h0 h0').trans h1,⟨?_,?_,?_,?_⟩,h6⟩
 ·exact h2.of_block fun b hb=>hk b (h2.lt b hb).1 (h6 _ _ _ (by simp) b hb)
 ·exact h3.of_block fun b hb=>hk b (h3.lt b hb).1 (h6 _ _ _ (by simp) b hb)
 ·exact h4.of_block fun b hb=>hk b (h4.lt b hb).1 (h6 _ _ _ (by simp) b hb)
 ·exact h5.of_block fun b hb=>hk b (h5.lt b hb).1 (h6 _ _ _ (by simp) b hb)
theorem TabAt.below (h:TabAt w L B g n lt ft) (hb:Below B w w') :TabAt w' L B g n lt ft:=h.keep fun b _ hlt=>hb.block b hlt
theorem TabAt.set (h:TabAt w L B g n lt ft) {p:Addr} (hp:p.block<L) (u:Value) :TabAt (w.setCell p u) L B g n lt ft:=h.keep fun b hb _=>Below.heap_setCell _ _ _ _ (by omega)
theorem table_Low (x:Int) (h:TabAt w L B g n lt ft) (hm:lt.length≤67108864) (hr:lt.Pairwise fun a b=>a.1<b.1) :
 Calls Tryz.prog 183 #[.pointer (some ⟨g,0,none⟩),.int .i64 x] w fun e w'=>e=.returned (.int .i64 (upT lt x))∧Below w.heap.size w w':=by
 obtain⟨h0,h0',A1,c1,A2,c2,A3,c3,A4,c4,h1,⟨o2,o3,o4,o5⟩,h6⟩:=h;have h2:=o2.sl;have h3:=o3.sl;have h4:=o4.sl;have h5:=o5.sl;have c:=bC h1;have H2:=LH h2;have H3:=LH h3;have HR:=LH hr;clear h1 h2 h3 h4 h5 hr o2 o3 o4 o5 h6
 go_enter Tryz.func183,Tryz.ntmps183
 go_wp2_with fail;refine(sums_upTo _ A1 A2 c1 c2 lt x H2.out H3.out hm HR.out).mono ?_;rintro e w1 ⟨rfl,hb1⟩;have B1:Below w.heap.size w w1:=Below.then_ bE hb1;have s1:=B1.size;go_wp2_with fail;go_ret;exact⟨rfl,bE⟩
theorem table_High (x:Int) (h:TabAt w L B g n lt ft) (hm:ft.length≤67108864) (hr:ft.Pairwise fun a b=>a.1<b.1) :
 Calls Tryz.prog 184 #[.pointer (some ⟨g,0,none⟩),.int .i64 x] w fun e w'=>e=.returned (.int .i64 (upT ft x))∧Below w.heap.size w w':=by
 obtain⟨h0,h0',A1,c1,A2,c2,A3,c3,A4,c4,h1,⟨o2,o3,o4,o5⟩,h6⟩:=h;have h2:=o2.sl;have h3:=o3.sl;have h4:=o4.sl;have h5:=o5.sl;have c:=bC h1;have H2:=LH h4;have H3:=LH h5;have HR:=LH hr;clear h1 h2 h3 h4 h5 hr o2 o3 o4 o5 h6
 go_enter Tryz.func184,Tryz.ntmps184
 go_wp2_with fail;refine(sums_upTo _ A3 A4 c3 c4 ft x H2.out H3.out hm HR.out).mono ?_;rintro e w1 ⟨rfl,hb1⟩;have B1:Below w.heap.size w w1:=Below.then_ bE hb1;have s1:=B1.size;go_wp2_with fail;go_ret;exact⟨rfl,bE⟩
theorem table_Both (x:Int) (h:TabAt w L B g n lt ft) (hBw:B≤w.heap.size) (hm:lt.length≤67108864) (hr:lt.Pairwise fun a b=>a.1<b.1) (hm2:ft.length≤67108864) (hr2:ft.Pairwise fun a b=>a.1<b.1) :
 Calls Tryz.prog 131 #[.pointer (some ⟨g,0,none⟩),.int .i64 x] w fun e w'=>e=.returned (.agg #[.int .i64 (upT lt x),.int .i64 (upT ft x)])∧Below w.heap.size w w':=by
 have HA:=LH (h.below ((Below.refl B w).alloc hBw (.cells #[.int .i64 0,.int .i64 0] 47)));have HR:=LH hr;have HR2:=LH hr2;clear h hr hr2
 go_enter Tryz.func131,Tryz.ntmps131
 go_wp2_with fail;refine(table_Low x HA.out hm HR.out).mono ?_;rintro e w1 ⟨rfl,hb1⟩;have B1:Below w.heap.size w w1:=Below.then_ bE hb1;have s1:=B1.size;have z1_0:w.heap.size<w1.heap.size:=by have:=hb1.size;(try simp at this);omega
 have y1_0:w.heap.size≤w1.heap.size:=Nat.le_of_lt z1_0;have c1_0:=czB hb1 (w.heap.size);have f1_0:=fzB hb1 (w.heap.size);have HA1:=LH (HA.out.below (hb1.mono (by simp;omega)));have K:=LH ((bothAt.new w 0 0).below hb1);go_wp2_with fail;refine(table_High x HA1.out hm2 HR2.out).mono ?_;rintro e w2 ⟨rfl,hb2⟩;have B2:Below w.heap.size w w2:=Below.then_ bE hb2;have s2:=B2.size;have k:=K.out.below hb2;have cc:=bC k;have cf:=bF k;have zz:=lB k;clear k;go_wp2_with fail;exact bR (v:=.agg #[.int .i64 (upT lt x),.int .i64 (upT ft x)]) (by simp only [results,Tryz.results131];go_simp) rfl ⟨rfl,bE⟩
end
def lastL (l:Int) (r:List Nd) :List Nd:=r.map fun x=>((endsOf l x.1).2.1,x.2)
def firstL (l:Int) (r:List Nd) :List Nd:=r.map fun x=>((endsOf l x.1).1,x.2)
theorem low_up (l:Int) (r:List Nd) (y:Int) :wUp (lastL l r) y=lowOf l r y:=by
 induction r with
 |nil=>rfl
 |cons x r ih=>
  simp only [lastL,List.map_cons,wUp,lowOf,weighR,decide_eq_true_eq] at ih⊢;rw [ih]
theorem high_up (l:Int) (r:List Nd) (y:Int) :wUp (firstL l r) y=highOf l r y:=by
 induction r with
 |nil=>rfl
 |cons x r ih=>
  simp only [firstL,List.map_cons,wUp,highOf,weighR,decide_eq_true_eq] at ih⊢;rw [ih]
theorem sum_last (l:Int) (r:List Nd) :sumR (lastL l r) =sumR r:=by
 induction r with
 |nil=>rfl
 |cons x r ih=>simp only [lastL,List.map_cons,sumR] at ih⊢;rw [ih]
theorem sum_first (l:Int) (r:List Nd) :sumR (firstL l r) =sumR r:=by
 induction r with
 |nil=>rfl
 |cons x r ih=>simp only [firstL,List.map_cons,sumR] at ih⊢;rw [ih]
theorem tyRd2:SliceTy Tryz.prog 57 102 2 16 (.agg #[.int .i64 0,.int .i64 0]):=⟨Tryz.underlying57,by kernel_rfl,rfl,by decide⟩
def OfPost (l:Int) (r:List Nd) (w:World) (e:Ending) (w':World) :Prop:=
 ∃g lt ft,e=.returned (.pointer (some ⟨g,0,none⟩))∧TabAt w' w.heap.size w'.heap.size g (sumR r) lt ft∧Tab (lastL l r) lt∧Tab (firstL l r) ft∧lt.length≤r.length∧ft.length≤r.length∧Below w.heap.size w w'
structure TwoR (W:World) (B:Nat) (U1:Value) (L1:List Nd) (U2:Value) (L2:List Nd) :Prop where
 own1:Own W B 102 encN U1 L1
 own2:Own W B 102 encN U2 L2
 sep:Sep U1 U2
section
variable {W W':World} {B:Nat} {U1 U1':Value} {L1 L1':List Nd} {U2 U2':Value} {L2 L2':List Nd}
theorem TwoR.below (h:TwoR W B U1 L1 U2 L2) (hb:Below W.heap.size W W') :TwoR W' B U1 L1 U2 L2:=⟨h.own1.below hb,h.own2.below hb,h.sep⟩
theorem TwoR.app1 (h:TwoR W B U1 L1 U2 L2) {k:Nat} (hg:W.grownBy W' U1.ownBlock) (ho:Own W' B 102 encN U1' L1') (hl:U1'.ownBlock=U1.ownBlock∨U1'.ownBlock=some (W.heap.size+k)) :TwoR W' B U1' L1' U2 L2:=
 ⟨ho,h.own2.kept hg (by
  cases e:U2.ownBlock with
  |none=>exact .inl rfl
  |some g=>exact .inr fun he=>h.sep g (by rw [←he]) e),fun g h1 h2=>by
   rcases hl with hl|hl
   ·exact h.sep g (hl ▸ h1) h2
   ·rw [hl] at h1;cases h1;have:=(h.own2.lt _ h2).2;omega⟩
theorem TwoR.app2 (h:TwoR W B U1 L1 U2 L2) {k:Nat} (hg:W.grownBy W' U2.ownBlock) (ho:Own W' B 102 encN U2' L2') (hl:U2'.ownBlock=U2.ownBlock∨U2'.ownBlock=some (W.heap.size+k)) :TwoR W' B U1 L1 U2' L2':=
 ⟨h.own1.kept hg (by
  cases e:U1.ownBlock with
  |none=>exact .inl rfl
  |some g=>exact .inr fun he=>h.sep g e (by rw [←he])),ho,fun g h1 h2=>by
   rcases hl with hl|hl
   ·exact h.sep g h1 (hl ▸ h2)
   ·rw [hl] at h2;cases h2;have:=(h.own1.lt _ h1).2;omega⟩
end
theorem take_last {l:Int} {r:List Nd} {q:Nat} (h:q<r.length) :lastL l (r.take (q+1)) =lastL l (r.take q) ++ [((endsOf l r[q].1).2.1,r[q].2)]:=by
 unfold lastL;rw [List.take_succ_eq_append_getElem h,List.map_append];rfl
theorem take_first {l:Int} {r:List Nd} {q:Nat} (h:q<r.length) :firstL l (r.take (q+1)) =firstL l (r.take q) ++ [((endsOf l r[q].1).1,r[q].2)]:=by
 unfold firstL;rw [List.take_succ_eq_append_getElem h,List.map_append];rfl
theorem rank_Of (w:World) (g K l:Nat) (k:Int) (r:List Nd) (F:Nat→Prop) (h:DigAt w g K l k r F) (hn:r.length≤67108864) :
 Calls Tryz.prog 80 #[.pointer (some ⟨g,0,none⟩)] w (OfPost l r w):=by
 have hf:=h.fits;have hll:=h.l_le;have HD:=LH h;have hnd:=hf.nodes hll
 have hlast: ∀x∈lastL l r,0≤x.1∧x.1≤281474976710655:=fun x hx=>by
  obtain⟨y,hy,rfl⟩:=List.mem_map.1 hx;have:=ends_48 hll.2 (hnd y hy);simp only;omega
 have hfirst: ∀x∈firstL l r,0≤x.1∧x.1≤281474976710655:=fun x hx=>by
  obtain⟨y,hy,rfl⟩:=List.mem_map.1 hx;have:=ends_48 hll.2 (hnd y hy);simp only;omega
 have hlast1: ∀x∈lastL l r,1≤x.2:=fun x hx=>by obtain⟨y,hy,rfl⟩:=List.mem_map.1 hx;exact(hf.roll.2 y hy).2
 have hfirst1: ∀x∈firstL l r,1≤x.2:=fun x hx=>by obtain⟨y,hy,rfl⟩:=List.mem_map.1 hx;exact(hf.roll.2 y hy).2
 have ML:=LH (fun W base v (ho:Own W base 102 encN v (lastL l r))=>rank_made W base v (lastL l r) ho hlast hlast1 (by rw [sum_last];exact hf.sum) (by simpa [lastL] using hn));have MF:=LH (fun W base v (ho:Own W base 102 encN v (firstL l r))=>rank_made W base v (firstL l r) ho hfirst hfirst1 (by rw [sum_first];exact hf.sum) (by simpa [firstL] using hn));clear h hlast hfirst hlast1 hfirst1 hnd
 go_enter Tryz.func80,Tryz.ntmps80
 go_wp2_with fail;refine(digest_Conf _ g K l k r F HD.out).mono ?_;rintro e w1 ⟨rfl,hb1⟩;have B1:Below w.heap.size w w1:=Below.then_ bE hb1;have s1:=B1.size;have HD1:=LH (HD.out.below B1);go_wp2_with fail;refine(digest_Nodes _ g K l k r F HD1.out hn).mono ?_;rintro e w2 ⟨v,rfl,ho,hb2⟩;have B2:Below w.heap.size w w2:=Below.then_ bE hb2;have s2:=B2.size;have HO:=LH ho;have HB2:=LH B2;obtain⟨A,cap,rfl,_⟩:=ho.form;clear ho hb1 hb2 B1 B2;go_wp2_with fail
 go_loopw [3,4,19] (fun f t i wr=>∃(q:Nat) (v1 v2:Value),q≤r.length∧i=.int .i64 q∧f=v1∧t=v2∧TwoR wr w2.heap.size v1 (firstL l (r.take q)) v2 (lastL l (r.take q))∧Own wr w1.heap.size 172 encN (.slice A r.length cap) r∧Below w.heap.size w wr∧w2.heap.size≤wr.heap.size) (fun _ _ i _=>r.length - (intOf i).toNat)
 case atStart=>exact⟨0,.slice none 0 0,.slice none 0 0,Nat.zero_le _,rfl,rfl,rfl,⟨Own.nil _ _ _ _,Own.nil _ _ _ _,(fun g h=>by cases h)⟩,HO.out,HB2.out,Nat.le_refl _⟩
 case round=>
  obtain⟨q,v1,v2,hq,rfl,rfl,rfl,htwo,hown,hB,hs⟩:=hrel;have KT:=LH htwo;have KO:=LH hown;have KB:=LH hB;clear htwo hown;by_cases hlt:q<r.length
  ·obtain⟨c,off,rfl,hc,hcl⟩:=KO.out.sl.at_ hlt
   have d0:=hcl 0 (.int .i64 r[q].1) rfl;have d1:=hcl 1 (.int .i64 r[q].2) rfl;simp only [Nat.add_zero] at d0;have hxl:=hf.lt _ (List.getElem_mem hlt);have hp:=pow_48 (n:=l) hll.2;have TL:=LH (take_last (l:=l) hlt);have TF:=LH (take_first (l:=l) hlt);obtain⟨x,hxe⟩ : ∃x,x=r[q]:=⟨_,rfl⟩;rw [←hxe] at d0 d1 hxl TL TF;have hx1:x.1≤562949953421312:=by omega
   have HE:=LH (twig_Ends · l x.1 (by omega));have lf: (firstL l (r.take q)).length=q:=by simp [firstL];omega
   have ll: (lastL l (r.take q)).length=q:=by simp [lastL];omega
   have LF:=LH lf;have LL:=LH ll;generalize endsOf l x.1=t at HE TL TF;obtain⟨t1,t2,t3⟩:=t;simp only at TL TF;unfold endsV at HE;clear hcl hxe hxl hp lf ll;go_wp2_with fail;refine(HE.out _).mono ?_;rintro e w3 ⟨rfl,hb3⟩;have c3:=fun o=>hb3.cell (p:=⟨wr.heap.size,o,none⟩) (by simp);have z3:wr.heap.size<w3.heap.size:=by have:=hb3.size;simp at this;omega
   have BW:Below wr.heap.size wr w3:=((Below.refl wr.heap.size wr).alloc (Nat.le_refl _) _).trans (hb3.mono (by simp));have T3:=LH (KT.out.below BW);have O3:=LH (KO.out.below BW);have B3:=LH (KB.out.trans (BW.mono KB.out.size));clear BW hb3;go_wp2_with ((at_builtin;refine wpList_push tyRd2 rfl _ _ rfl encN w3 w2.heap.size u3 _ rfl T3.out.own1 (t1,x.2) (by go_simp) rfl ?c1 ?c2 ?c3 ?c4))
   case c1=>have:=LF.out;omega
   case c2=>have:=LF.out;simp only [maxLen];omega
   case c3=>omega
   case c4=>
    intro v1' w4 ho4 hg4 hz4 hl4 hb4 _;have T4:=LH (T3.out.app1 hg4 ho4 hl4);have O4:=LH (O3.out.kept hg4 (own_ne O3.out T3.out.own1 (by decide)));have s2w:w.heap.size≤w2.heap.size:=HB2.out.size;have B4:=LH (B3.out.trans (hb4.mono s2w));have ow1: ∀g,(u3:Value).ownBlock=some g→g<wr.heap.size:=fun g hg=>(KT.out.own1.lt g hg).2;have c4:=fun o=>(grown_cell hg4 wr.heap.size z3 (fun h=>by have:=ow1 _ h;omega) o).trans (c3 o);have z4:wr.heap.size<w4.heap.size:=by omega
    clear ho4 hg4 hl4 hb4 ow1 c3;go_wp2_with ((at_builtin;refine wpList_push tyRd2 rfl _ _ rfl encN w4 w2.heap.size u4 _ rfl T4.out.own2 (t2,x.2) (by go_simp) rfl ?c1 ?c2 ?c3 ?c4))
    case c1=>have:=LL.out;omega
    case c2=>have:=LL.out;simp only [maxLen];omega
    case c3=>omega
    case c4=>
     intro v2' w5 ho5 hg5 hz5 hl5 hb5 _;have T5:=LH (T4.out.app2 hg5 ho5 hl5);have O5:=LH (O4.out.kept hg5 (own_ne O4.out T4.out.own2 (by decide)));have B5:=LH (B4.out.trans (hb5.mono s2w));have z5:w2.heap.size≤w5.heap.size:=by omega
     clear ho5 hg5 hl5 hb5;go_wp2_with fail;go_roundw
     case rel=>exact⟨q+1,v1',v2',by omega,by go_num,rfl,rfl,by rw [TF.out,TL.out];exact T5.out,O5.out,B5.out,z5⟩
     case measure=>simp [intOf];omega
  ·obtain rfl:q=r.length:=by omega
   rw [List.take_length] at KT;have s2w:w.heap.size≤w2.heap.size:=HB2.out.size;have HDr:=LH (HD.out.below KB.out);go_wp2_with fail;refine(digest_N _ g K l k r F HDr.out).mono ?_;rintro e w3 ⟨rfl,hb3⟩;have B3:Below w.heap.size w w3:=Below.then_ bE hb3;have s3:=B3.size;have T3:=LH (KT.out.below hb3);go_wp2_with fail;refine(ML.out w3 _ _ T3.out.own2).mono ?_;rintro e w4 ⟨lt,A1,c1,A2,c2,rfl,htl,hll1,o1,o2,hT4⟩;have B4:=LH (hT4.below (base:=w2.heap.size) (fun b hb=>(T3.out.own2.lt b hb).1) (by have:=hb3.size;omega));have F4:=LH (hT4.own T3.out.own1 (fun b hb=>T3.out.sep b hb));have P1:=LH o1;have P2:=LH o2;have HTL:=LH htl;have HLL:=LH hll1;have hs4:=hT4.size;have hfb:=LH (fun b hb=>(T3.out.own1.lt b hb).2);clear o1 o2 htl hll1 hT4;go_wp2_with fail;refine(MF.out w4 _ _ F4.out).mono ?_;rintro e w5 ⟨ft,A3,c3,A4,c4,rfl,htf,hll2,o3,o4,hT5⟩;have B5:=LH (hT5.below (base:=w2.heap.size) (fun b hb=>(F4.out.lt b hb).1) (by have:=hb3.size;omega));have Q1:=LH (hT5.own P1.out (fun b hb hf=>by have:=(P1.out.lt b hb).1;have:=hfb.out b hf;omega));have Q2:=LH (hT5.own P2.out (fun b hb hf=>by have:=(P2.out.lt b hb).1;have:=hfb.out b hf;omega));have Q3:=LH o3;have Q4:=LH o4;have HTF:=LH htf;have HLL2:=LH hll2;clear o3 o4 htf hll2 hT5;go_wp2_with fail;go_ret;have BF:Below w.heap.size w w5:=(B3.trans ((B4.out.trans B5.out).mono s2w));have l1:=(Q1.out.alloc (.cells #[.int .i64 (sumR r),.slice A1 lt.length c1,.slice A2 lt.length c2,.slice A3 ft.length c3,.slice A4 ft.length c4] 213)).base_le (b:=w.heap.size) (by have:=BF.size;have:=hb3.size;omega);have l2:=(Q2.out.alloc (.cells #[.int .i64 (sumR r),.slice A1 lt.length c1,.slice A2 lt.length c2,.slice A3 ft.length c3,.slice A4 ft.length c4] 213)).base_le (b:=w.heap.size) (by have:=BF.size;have:=hb3.size;omega);have l3:=(Q3.out.alloc (.cells #[.int .i64 (sumR r),.slice A1 lt.length c1,.slice A2 lt.length c2,.slice A3 ft.length c3,.slice A4 ft.length c4] 213)).base_le (b:=w.heap.size) (by have:=B4.out.size;have:=hb3.size;omega);have l4:=(Q4.out.alloc (.cells #[.int .i64 (sumR r),.slice A1 lt.length c1,.slice A2 lt.length c2,.slice A3 ft.length c3,.slice A4 ft.length c4] 213)).base_le (b:=w.heap.size) (by have:=B4.out.size;have:=hb3.size;omega);refine⟨w5.heap.size,lt,ft,rfl,⟨BF.size,by simp,A1,c1,A2,c2,A3,c3,A4,c4,heap_alloc_new w5 _,⟨l1,l2,l3,l4⟩,fun A n c hm k hk=> ?_⟩,HTL.out,HTF.out,by have:=HLL.out;simpa [lastL] using this,by have:=HLL2.out;simpa [firstL] using this,BF.alloc (by have:=BF.size;omega) _⟩;simp only [List.mem_cons,List.not_mem_nil,or_false,Prod.mk.injEq] at hm;rcases hm with ⟨rfl,rfl,rfl⟩ | ⟨rfl,rfl,rfl⟩ | ⟨rfl,rfl,rfl⟩ | ⟨rfl,rfl,rfl⟩
   ·exact(l1.lt k hk).2
   ·exact(l2.lt k hk).2
   ·exact(l3.lt k hk).2
   ·exact(l4.lt k hk).2
def endL (l:Int) (b:Bool) (r:List Nd) :List Nd:=r.map fun x=>((if b=true then (endsOf l x.1).1 else (endsOf l x.1).2.1),x.2)
theorem endL_true (l:Int) (r:List Nd) :endL l true r=firstL l r:=by simp [endL,firstL]
theorem endL_false (l:Int) (r:List Nd) :endL l false r=lastL l r:=by simp [endL,lastL]
theorem take_end {l:Int} {b:Bool} {r:List Nd} {q:Nat} (h:q<r.length) :endL l b (r.take (q+1)) =endL l b (r.take q) ++ [((if b=true then (endsOf l r[q].1).1 else (endsOf l r[q].1).2.1),r[q].2)]:=by
 unfold endL;rw [List.take_succ_eq_append_getElem h,List.map_append];rfl
theorem tyE:SliceTy Tryz.prog 207 249 2 16 (.agg #[.int .i64 0,.int .i64 0]):=⟨Tryz.underlying207,by kernel_rfl,rfl,by decide⟩
theorem quant_ends (w:World) (g K l:Nat) (k:Int) (r:List Nd) (F:Nat→Prop) (b:Bool) (h:DigAt w g K l k r F) (hn:r.length≤67108864) :
 Calls Tryz.prog 126 #[.pointer (some ⟨g,0,none⟩),.bool b] w (OwnPost 249 encN (endL l b r) w):=by
 have hf:=h.fits;have hll:=h.l_le;have HD:=LH h;clear h
 go_enter Tryz.func126,Tryz.ntmps126
 go_wp2_with fail;refine(digest_Conf _ g K l k r F HD.out).mono ?_;rintro e w1 ⟨rfl,hb1⟩;have B1:Below w.heap.size w w1:=Below.then_ bE hb1;have s1:=B1.size;have HD1:=LH (HD.out.below B1);go_wp2_with fail;refine(digest_Nodes _ g K l k r F HD1.out hn).mono ?_;rintro e w2 ⟨v,rfl,ho,hb2⟩;have B2:Below w.heap.size w w2:=Below.then_ bE hb2;have s2:=B2.size;have HO:=LH ho;have HB2:=LH B2;obtain⟨A,cap,rfl,_⟩:=ho.form;clear ho hb1 hb2 B1 B2;go_wp2_with fail
 go_loopw [5,18] (fun f i wr=>∃(q:Nat) (v1:Value),q≤r.length∧i=.int .i64 q∧f=v1∧Own wr w.heap.size 249 encN v1 (endL l b (r.take q))∧Own wr w1.heap.size 172 encN (.slice A r.length cap) r∧Below w.heap.size w wr∧w2.heap.size≤wr.heap.size) (fun _ i _=>r.length - (intOf i).toNat)
 case atStart=>exact⟨0,.slice none 0 0,Nat.zero_le _,rfl,rfl,Own.nil _ _ _ _,HO.out,HB2.out,Nat.le_refl _⟩
 case round=>
  obtain⟨q,v1,hq,rfl,rfl,hone,hown,hB,hs⟩:=hrel;have KT:=LH hone;have KO:=LH hown;have KB:=LH hB;clear hone hown;by_cases hlt:q<r.length
  ·obtain⟨c,off,rfl,hc,hcl⟩:=KO.out.sl.at_ hlt
   have d0:=hcl 0 (.int .i64 r[q].1) rfl;have d1:=hcl 1 (.int .i64 r[q].2) rfl;simp only [Nat.add_zero] at d0;have hxl:=hf.lt _ (List.getElem_mem hlt);have hp:=pow_48 (n:=l) hll.2;have TL:=LH (take_end (l:=l) (b:=b) hlt);obtain⟨x,hxe⟩ : ∃x,x=r[q]:=⟨_,rfl⟩;rw [←hxe] at d0 d1 hxl TL;have hx1:x.1≤562949953421312:=by omega
   have HE:=LH (twig_Ends · l x.1 (by omega));have LL:=LH (show (endL l b (r.take q)).length=q by simp [endL];omega);generalize endsOf l x.1=t at HE TL;obtain⟨t1,t2,t3⟩:=t;simp only at TL;unfold endsV at HE;have s2w:w.heap.size≤w2.heap.size:=HB2.out.size;clear hcl hxe hxl hp;go_wp2_with fail;refine(HE.out _).mono ?_;rintro e w3 ⟨rfl,hb3⟩;have c3:=fun o=>hb3.cell (p:=⟨wr.heap.size,o,none⟩) (by simp);have z3:wr.heap.size<w3.heap.size:=by have:=hb3.size;simp at this;omega
   have BW:Below wr.heap.size wr w3:=((Below.refl wr.heap.size wr).alloc (Nat.le_refl _) _).trans (hb3.mono (by simp));have T3:=LH (KT.out.below BW);have O3:=LH (KO.out.below BW);have B3:=LH (KB.out.trans (BW.mono KB.out.size));clear BW hb3
   cases b
   all_goals
    simp only [Bool.false_eq_true,if_false,if_true,reduceIte] at TL
    go_wp2_with ((at_builtin;first
     |refine wpList_push tyE rfl _ _ rfl encN w3 w.heap.size u5 _ rfl T3.out (t1,x.2) (by go_simp) rfl ?c1 ?c2 ?c3 ?c4
     |refine wpList_push tyE rfl _ _ rfl encN w3 w.heap.size u5 _ rfl T3.out (t2,x.2) (by go_simp) rfl ?c1 ?c2 ?c3 ?c4))
    case c1=>have:=LL.out;omega
    case c2=>have:=LL.out;simp only [maxLen];omega
    case c3=>omega
    case c4=>
     intro v1' w4 ho4 hg4 hz4 hl4 hb4 _;have T4:=LH ho4;have O4:=LH (O3.out.kept hg4 (own_ne O3.out T3.out (by decide)));have B4:=LH (B3.out.trans hb4);have z5:w2.heap.size≤w4.heap.size:=by omega
     clear ho4 hg4 hl4 hb4;go_wp2_with fail;go_roundw
     case rel=>exact⟨q+1,v1',by omega,by go_num,rfl,by rw [TL.out];exact T4.out,O4.out,B4.out,z5⟩
     case measure=>simp [intOf];omega
  ·obtain rfl:q=r.length:=by omega
   rw [List.take_length] at KT;go_wp2_with fail;go_ret;exact⟨_,rfl,KT.out,KB.out⟩
def qWrong (r:List Nd) (k:Int) :Int:=if sumR r=0 then 7 else if k<1∨sumR r<k then 2 else 0
theorem quant_wrong (w:World) (g K l:Nat) (k:Int) (r:List Nd) (F:Nat→Prop) (rk:Int) (h:DigAt w g K l k r F) :Calls Tryz.prog 123 #[.pointer (some ⟨g,0,none⟩),.int .i64 rk] w fun e w'=>e=.returned (.int .i64 (qWrong r rk))∧Below w.heap.size w w':=by
 have HD:=LH h;have HN:=LH (digest_N · g K l k r F ·);unfold qWrong;generalize sumR r=n at HN⊢;clear h;by_cases h0:n=0
 ·subst h0
  rw [if_pos rfl]
  go_enter Tryz.func123,Tryz.ntmps123
  go_wp2_with fail;refine(HN.out _ HD.out).mono ?_;rintro e w1 ⟨rfl,hb1⟩;have B1:Below w.heap.size w w1:=Below.then_ bE hb1;have s1:=B1.size;go_wp2_with fail;go_ret;exact⟨rfl,bE⟩
 ·rw [if_neg h0]
  have h0': (n == 0) =false:=by simpa using h0
  by_cases h1:rk<1
  ·rw [if_pos (.inl h1)]
   clear h0
   go_enter Tryz.func123,Tryz.ntmps123
   go_wp2_with fail;refine(HN.out _ HD.out).mono ?_;rintro e w1 ⟨rfl,hb1⟩;have B1:Below w.heap.size w w1:=Below.then_ bE hb1;have s1:=B1.size;go_wp2_with fail;go_ret;exact⟨rfl,bE⟩
  ·by_cases h2:n<rk
   ·rw [if_pos (.inr h2)]
    clear h0
    go_enter Tryz.func123,Tryz.ntmps123
    go_wp2_with fail;refine(HN.out _ HD.out).mono ?_;rintro e w1 ⟨rfl,hb1⟩;have B1:Below w.heap.size w w1:=Below.then_ bE hb1;have s1:=B1.size;have HD1:=LH (HD.out.below hb1);go_wp2_with fail;refine(HN.out _ HD1.out).mono ?_;rintro e w2 ⟨rfl,hb2⟩;have B2:Below w.heap.size w w2:=Below.then_ bE hb2;have s2:=B2.size;go_wp2_with fail;go_ret;exact⟨rfl,bE⟩
   ·rw [if_neg (by omega)]
    clear h0
    go_enter Tryz.func123,Tryz.ntmps123
    go_wp2_with fail;refine(HN.out _ HD.out).mono ?_;rintro e w1 ⟨rfl,hb1⟩;have B1:Below w.heap.size w w1:=Below.then_ bE hb1;have s1:=B1.size;have HD1:=LH (HD.out.below hb1);go_wp2_with fail;refine(HN.out _ HD1.out).mono ?_;rintro e w2 ⟨rfl,hb2⟩;have B2:Below w.heap.size w w2:=Below.then_ bE hb2;have s2:=B2.size;go_wp2_with fail;go_ret;exact⟨rfl,bE⟩
def atT (l:Int) (r:List Nd) (k:Int) :Int×Int:=if qWrong r k=0 then (bestOf (lastL l r) k,0) else (0,qWrong r k)
def firstT (l:Int) (r:List Nd) (k:Int) :Int×Int:=if qWrong r k=0 then (bestOf (firstL l r) k,0) else (0,qWrong r k)
def pairV (t:Int×Int) :Value:=.tuple #[.int .i64 t.1,.int .i64 t.2]
theorem qWrong_ok {r:List Nd} {k:Int} (h:qWrong r k=0) :1≤k∧k≤sumR r:=by
 unfold qWrong at h
 split at h
 ·cases h
 ·split at h
  ·cases h
  ·omega
theorem reach_of (w:World) (base:Nat) (v:Value) (l:Nat) (b:Bool) (r:List Nd) (k:Int) (ho:Own w base 249 encN v (endL l b r)) (hf:Fits l r) (hl:1≤l∧l≤48) (hk:qWrong r k=0) (hm:r.length≤67108864) :
 Calls Tryz.prog 125 #[v,.int .i64 k] w fun e w'=>e=.returned (.int .i64 (bestOf (endL l b r) k))∧Turn (fun b=>v.ownBlock=some b) w w':=by
 have hs:sumR (endL l b r) =sumR r:=by cases b;rw [endL_false,sum_last];rw [endL_true,sum_first]
 have h1: ∀x∈endL l b r,1≤x.2:=fun x hx=>by obtain⟨y,hy,rfl⟩:=List.mem_map.1 hx;exact(hf.roll.2 y hy).2
 have h0: ∀x∈endL l b r,0≤x.1:=fun x hx=>by
  obtain⟨y,hy,rfl⟩:=List.mem_map.1 hx;have:=ends_48 hl.2 (hf.nodes hl y hy);simp only
  split <;> omega
 have hq:=qWrong_ok hk;refine(quant_reach w base v (endL l b r) k ho h1 hq.1 (by rw [hs];exact hq.2) (by rw [hs];exact hf.sum) (by simpa [endL] using hm)).mono ?_;rintro e w' ⟨z,rfl,hz,hT⟩;exact⟨by rw [best_reach h0 h1 hq.1 hz],hT⟩
theorem quant_At (w:World) (g K l:Nat) (k:Int) (r:List Nd) (F:Nat→Prop) (rk:Int) (h:DigAt w g K l k r F) (hn:r.length≤67108864) :Calls Tryz.prog 77 #[.pointer (some ⟨g,0,none⟩),.int .i64 rk] w fun e w'=>e=.returned (pairV (atT l r rk))∧Below w.heap.size w w':=by
 have HD:=LH h;have hf:=h.fits;have hll:=h.l_le;have HW:=LH (quant_wrong · g K l k r F rk ·);unfold pairV atT;clear h;by_cases hw:qWrong r rk=0
 ·rw [if_pos hw]
  rw [hw] at HW;have HR:=LH (fun w base v ho=>reach_of w base v l false r rk ho hf hll hw hn);rw [endL_false] at HR;have HE:=LH (quant_ends · g K l k r F false · hn);rw [endL_false] at HE;generalize bestOf (lastL l r) rk=z at HR⊢;clear hw hf hll
  go_enter Tryz.func77,Tryz.ntmps77
  go_wp2_with fail;refine(HW.out _ HD.out).mono ?_;rintro e w1 ⟨rfl,hb1⟩;have B1:Below w.heap.size w w1:=Below.then_ bE hb1;have s1:=B1.size;have HD1:=LH (HD.out.below hb1);go_wp2_with fail;refine(HE.out _ HD1.out).mono ?_;rintro e w2 ⟨v,rfl,ho,hb2⟩;have B2:Below w.heap.size w w2:=Below.then_ bE hb2;have s2:=B2.size;have HO:=LH ho;clear ho;go_wp2_with fail;refine(HR.out _ _ _ HO.out).mono ?_;rintro e w3 ⟨rfl,hT⟩;have B3:=B2.trans ((hT.below (base:=w1.heap.size) (fun b hb=>(HO.out.lt b hb).1) hb2.size).mono s1);clear hT;go_wp2_with fail
  go_ret2
  exact⟨rfl,B3⟩
 ·rw [if_neg hw]
  have hw': ((qWrong r rk) == 0) =false:=by simpa using hw
  generalize qWrong r rk=z at HW hw'⊢;clear hw hf hll
  go_enter Tryz.func77,Tryz.ntmps77
  go_wp2_with fail;refine(HW.out _ HD.out).mono ?_;rintro e w1 ⟨rfl,hb1⟩;have B1:Below w.heap.size w w1:=Below.then_ bE hb1;have s1:=B1.size;go_wp2_with fail
  go_ret2
  exact⟨rfl,bE⟩
theorem part_le_b {a b c:Nat} (hbc:b≤c) (hc:1≤c) :a*b / c≤a:=by rw [Nat.mul_comm];exact part_le hbc hc
theorem part_lt_b {a b c:Nat} (hbc:b≤c) (hc:1≤c) (h:a*b % c≠0) :a*b / c<a:=by rw [Nat.mul_comm] at h⊢;exact part_lt hbc hc h
theorem up_le_b {a b c:Nat} (hbc:b≤c) (hc:1≤c) :upV a b c≤a:=by
 unfold upV
 split
 ·exact part_le_b hbc hc
 ·rename_i h;exact part_lt_b hbc hc h
theorem reckon_share_b (w:World) (a b c:Nat) (ha:a≤9223372036854775807) (hc:1≤c) (hc2:c≤9223372036854775807) (hbc:b≤c) :
 Calls Tryz.prog 174 #[.int .i64 a,.int .i64 b,.int .i64 c] w fun e w'=>e=.returned (.tuple #[.int .u64 (a*b / c:Nat),.int .u64 (a*b % c:Nat),.bool true])∧Below w.heap.size w w':=by
 have hb:b≤9223372036854775807:=by omega
 have HC:=LH (show decide (0≤(a:Int)∧0≤(b:Int)) =true by simp);have HM:Hid (∀W,Calls Tryz.prog 225 #[.int .u64 a,.int .u64 b] W fun e w'=>e=.returned (.tuple #[.int .u64 (a*b / 18446744073709551616:Nat),.int .u64 (a*b % 18446744073709551616:Nat)])∧w'=W):=LH fun W=>Tryz.bits_Mul64 a b (by omega) (by omega) W;have h1:a*b≤c*9223372036854775807:=by rw [Nat.mul_comm];exact Nat.mul_le_mul hbc ha
 have hhi:a*b / 18446744073709551616<c:=by omega
 have hlo:a*b % 18446744073709551616≤18446744073709551615:=by omega
 have hD:=LH (fun w=>bits_Div64 w (a*b / 18446744073709551616) (a*b % 18446744073709551616) c (by omega) hhi (by omega));rw [Nat.div_add_mod'] at hD;have hr0:a*b % c≤c:=by have:=Nat.mod_lt (a*b) (show c>0 by omega);omega
 have hql:=part_le_b (a:=a) hbc hc;clear h1;generalize a*b / 18446744073709551616=hi at HM hhi hD;generalize a*b % 18446744073709551616=lo at HM hlo hD;generalize a*b / c=q at hD hql⊢;generalize a*b % c=r at hD hr0⊢;have hhi':decide ((c:Int)≤(hi:Int)) =false:=by simp;omega
 go_enter Tryz.func174,Tryz.ntmps174
 go_wp2_with fail;refine(reckon_counts _ a b).mono ?_;rintro e w1 ⟨rfl,hb1⟩;have B1:Below w.heap.size w w1:=Below.then_ bE hb1;have s1:=B1.size;rw [HC.out];go_wp2_with fail;refine(HM.out _).mono ?_;rintro e w2 ⟨rfl,rfl⟩;go_wp2_with fail;refine(hD.out _).mono ?_;rintro e w3 ⟨rfl,hb3⟩;have B3:Below w.heap.size w w3:=Below.then_ bE hb3;have s3:=B3.size;go_wp2_with fail
 go_ret3
 exact⟨rfl,bE⟩
theorem reckon_PartUp_b (w:World) (a b c:Nat) (ha:a≤9223372036854775807) (hc:1≤c) (hc2:c≤9223372036854775807) (hbc:b≤c) :
 Calls Tryz.prog 124 #[.int .i64 a,.int .i64 b,.int .i64 c] w fun e w'=>e=.returned (.tuple #[.int .i64 (upV a b c:Nat),.bool true])∧Below w.heap.size w w':=by
 have HS:=LH (reckon_share_b · a b c ha hc hc2 hbc);have hql:=part_le_b (a:=a) hbc hc;have hqr:a*b % c≠0→a*b / c<a:=fun h=>part_lt_b hbc hc h;have hr0:a*b % c≤c:=by have:=Nat.mod_lt (a*b) (show c>0 by omega);omega
 unfold upV;generalize a*b / c=q at HS hql hqr⊢;generalize a*b % c=r at HS hqr hr0⊢;by_cases h:r=0
 ·subst h
  rw [if_pos rfl]
  go_enter Tryz.func124,Tryz.ntmps124
  go_wp2_with fail;refine(HS.out _).mono ?_;rintro e w1 ⟨rfl,hb1⟩;have B1:Below w.heap.size w w1:=Below.then_ bE hb1;have s1:=B1.size;go_wp2_with fail;refine(reckon_count _ q (by omega)).mono ?_;rintro e w2 ⟨rfl,hb2⟩;have B2:Below w.heap.size w w2:=Below.then_ bE hb2;have s2:=B2.size;go_wp2_with fail
  go_ret2
  exact⟨rfl,B2⟩
 ·rw [if_neg h]
  have hq2:=hqr h;have h0: (0:Int) < (r:Int):=by omega
  clear hqr h;have HK:=LH (reckon_count · (q+1) (by omega))
  push_cast at HK⊢
  go_enter Tryz.func124,Tryz.ntmps124
  go_wp2_with fail;refine(HS.out _).mono ?_;rintro e w1 ⟨rfl,hb1⟩;have B1:Below w.heap.size w w1:=Below.then_ bE hb1;have s1:=B1.size;go_wp2_with fail;refine(HK.out _).mono ?_;rintro e w2 ⟨rfl,hb2⟩;have B2:Below w.heap.size w w2:=Below.then_ bE hb2;have s2:=B2.size;go_wp2_with fail
  go_ret2
  exact⟨rfl,B2⟩
def spanV (lo hi:Int) :Value:=.complex .f64 (FloatKind.f64.nearest lo) (FloatKind.f64.nearest hi)
def spanT (l:Int) (r:List Nd) (k:Int) :Value:=.tuple #[(if qWrong r k=0 then spanV (bestOf (firstL l r) k) (bestOf (lastL l r) k) else .complex .f64 0 0),.int .i64 (qWrong r k)]
def rankT (r:List Nd) (num den:Int) :Int×Int:=if sumR r=0 then (0,7) else if den<1∨num<0∨den<num then (0,2) else (max (upV (sumR r).toNat num.toNat den.toNat:Nat) 1,0)
theorem quant_Rank (w:World) (g K l:Nat) (k:Int) (r:List Nd) (F:Nat→Prop) (a b:Int) (h:DigAt w g K l k r F) (hb:b≤9223372036854775807) :Calls Tryz.prog 76 #[.pointer (some ⟨g,0,none⟩),.int .i64 a,.int .i64 b] w fun e w'=>e=.returned (pairV (rankT r a b))∧Below w.heap.size w w':=by
 have HD:=LH h;have hf:=h.fits;have hs1:=hf.sum;have hs0:=sumR_nonneg hf.roll;have HW:=LH (quant_wrong · g K l k r F 1 ·);have HN:=LH (digest_N · g K l k r F ·);unfold pairV rankT;clear h hf;by_cases h0:sumR r=0
 ·rw [if_pos h0]
  rw [show qWrong r 1=7 by unfold qWrong;rw [if_pos h0]] at HW;clear h0
  go_enter Tryz.func76,Tryz.ntmps76
  go_wp2_with fail;refine(HW.out _ HD.out).mono ?_;rintro e w1 ⟨rfl,hb1⟩;have B1:Below w.heap.size w w1:=Below.then_ bE hb1;have s1:=B1.size;go_wp2_with fail
  go_ret2
  exact⟨rfl,bE⟩
 ·rw [if_neg h0]
  rw [show qWrong r 1=0 by unfold qWrong;rw [if_neg h0,if_neg (by omega)]] at HW;obtain⟨n,hn⟩ : ∃n:Nat,sumR r=n:=Int.eq_ofNat_of_zero_le hs0;rw [hn] at HN hs1 h0⊢;clear hn hs0;by_cases c1:b<1
  ·rw [if_pos (.inl c1)]
   go_enter Tryz.func76,Tryz.ntmps76
   go_wp2_with fail;refine(HW.out _ HD.out).mono ?_;rintro e w1 ⟨rfl,hb1⟩;have B1:Below w.heap.size w w1:=Below.then_ bE hb1;have s1:=B1.size;go_wp2_with fail
   go_ret2
   exact⟨rfl,bE⟩
  ·by_cases c2:a<0
   ·rw [if_pos (.inr (.inl c2))]
    go_enter Tryz.func76,Tryz.ntmps76
    go_wp2_with fail;refine(HW.out _ HD.out).mono ?_;rintro e w1 ⟨rfl,hb1⟩;have B1:Below w.heap.size w w1:=Below.then_ bE hb1;have s1:=B1.size;go_wp2_with fail
    go_ret2
    exact⟨rfl,bE⟩
   ·by_cases c3:b<a
    ·rw [if_pos (.inr (.inr c3))]
     go_enter Tryz.func76,Tryz.ntmps76
     go_wp2_with fail;refine(HW.out _ HD.out).mono ?_;rintro e w1 ⟨rfl,hb1⟩;have B1:Below w.heap.size w w1:=Below.then_ bE hb1;have s1:=B1.size;go_wp2_with fail
     go_ret2
     exact⟨rfl,bE⟩
    ·rw [if_neg (by omega)]
     obtain⟨a,rfl⟩:=Int.eq_ofNat_of_zero_le (show 0≤a by omega);obtain⟨b,rfl⟩:=Int.eq_ofNat_of_zero_le (show 0≤b by omega);simp only [Int.toNat_natCast];have HP:=LH (reckon_PartUp_b · n a b (by omega) (by omega) (by omega) (by omega));have hu:=up_le_b (a:=n) (b:=a) (c:=b) (by omega) (by omega);generalize upV n a b=u at HP hu⊢;have c1':decide ((b:Int) <1) =false:=by simpa using c1
     have c3':decide ((b:Int) < (a:Int)) =false:=by simpa using c3
     have c4':decide (b<a) =false:=by simpa using c3
     clear c1 c2 c3 h0
     go_enter Tryz.func76,Tryz.ntmps76
     go_wp2_with fail;refine(HW.out _ HD.out).mono ?_;rintro e w1 ⟨rfl,hb1⟩;have B1:Below w.heap.size w w1:=Below.then_ bE hb1;have s1:=B1.size;have HD1:=LH (HD.out.below hb1);go_wp2_with fail;refine(HN.out _ HD1.out).mono ?_;rintro e w2 ⟨rfl,hb2⟩;have B2:Below w.heap.size w w2:=Below.then_ bE hb2;have s2:=B2.size;go_wp2_with fail;refine(HP.out _).mono ?_;rintro e w3 ⟨rfl,hb3⟩;have B3:Below w.heap.size w w3:=Below.then_ bE hb3;have s3:=B3.size;go_wp2_with fail
     go_ret2
     exact⟨rfl,bE⟩
def ofT (l:Int) (r:List Nd) (a b:Int) :Int×Int:=if (rankT r a b).2=0 then atT l r (rankT r a b).1 else (0,(rankT r a b).2)
theorem quant_Of (w:World) (g K l:Nat) (k:Int) (r:List Nd) (F:Nat→Prop) (a b:Int) (h:DigAt w g K l k r F) (hn:r.length≤67108864) (hb:b≤9223372036854775807) :Calls Tryz.prog 41 #[.pointer (some ⟨g,0,none⟩),.int .i64 a,.int .i64 b] w fun e w'=>e=.returned (pairV (ofT l r a b))∧Below w.heap.size w w':=by
 have HD:=LH h;have HR:=LH (quant_Rank · g K l k r F a b · hb);have HA:=LH (fun w x h=>quant_At w g K l k r F x h hn);unfold ofT;unfold pairV at HR HA⊢;clear h;generalize rankT r a b=t at HR⊢;obtain⟨t1,t2⟩:=t;simp only at HR⊢;by_cases h0:t2=0
 ·subst h0
  rw [if_pos rfl];have HA:=LH (HA.out · t1 ·);generalize atT l r t1=u at HA⊢;obtain⟨u1,u2⟩:=u;simp only at HA⊢
  go_enter Tryz.func41,Tryz.ntmps41
  go_wp2_with fail;refine(HR.out _ HD.out).mono ?_;rintro e w1 ⟨rfl,hb1⟩;have B1:Below w.heap.size w w1:=Below.then_ bE hb1;have s1:=B1.size;have HD1:=LH (HD.out.below hb1);go_wp2_with fail;refine(HA.out _ HD1.out).mono ?_;rintro e w2 ⟨rfl,hb2⟩;have B2:Below w.heap.size w w2:=Below.then_ bE hb2;have s2:=B2.size;go_wp2_with fail
  go_ret2
  exact⟨rfl,bE⟩
 ·rw [if_neg h0]
  have h0': (t2 == 0) =false:=by simpa using h0
  clear h0
  go_enter Tryz.func41,Tryz.ntmps41
  go_wp2_with fail;refine(HR.out _ HD.out).mono ?_;rintro e w1 ⟨rfl,hb1⟩;have B1:Below w.heap.size w w1:=Below.then_ bE hb1;have s1:=B1.size;go_wp2_with fail
  go_ret2
  exact⟨rfl,bE⟩
def trendF (l:Nat) (a b:Int) (x:RsI) :Int:=if (ofT l x.r a b).2=0 then (ofT l x.r a b).1 else -1
theorem wrap_s64 {t n:Nat} (h:t<n) (hn:n≤64) :wrap64 ((t:Int) +1) = ((t+1:Nat) :Int):=by unfold wrap64;omega
theorem small_c1 {z t n:Nat} (h:z=t) (ht:t<n) (hn:n≤64) : (z+1) *8≤140737488355328:=by omega
theorem small_c2 {z t n:Nat} (h:z=t) (ht:t<n) (hn:n≤64) :z+1≤maxLen:=by unfold maxLen;omega
theorem sea_Trend (w W:World) (L:EpL) (k:Int) (gs:Nat) (m:EpM) (rs:List RsI) (a b:Int) (h:SeaS w L k gs m rs rs W) (h64:rs.length≤64) (ha:0≤a∧a≤b) (hb:1≤b∧b≤9223372036854775807) (hr: ∀x∈rs,x.r.length≤67108864) :
 Calls Tryz.prog 15 #[.pointer (some ⟨gs,0,none⟩),.int .i64 a,.int .i64 b] W fun e W'=>∃A c,e=.returned (.tuple #[.slice A rs.length c,.int .i64 0])∧Own W' W.heap.size 3 encZ (.slice A rs.length c) (rs.map (trendF L.l a b))∧Below W.heap.size W W':=by
 obtain⟨F,A,cap,h1,h2,h3,h4⟩:=h;have X0:=LH h4.xs
 have HC:Hid (∀i (hi:i<rs.length),∃bb oo,A=some ⟨bb,oo,none⟩∧bb<W.heap.size∧W.cell? ⟨bb,oo+i*2,none⟩ =some (.pointer (some ⟨rs[i].g,0,none⟩))∧W.cell? ⟨bb,oo+i*2+1,none⟩ =some (.int .u64 rs[i].c)):=LH fun i hi=>by
  obtain⟨b',off',e,hbb,hcl⟩:=h4.o.sl.at_ hi;have d0:=hcl 0 (.pointer (some ⟨rs[i].g,0,none⟩)) rfl;have d1:=hcl 1 (.int .u64 rs[i].c) rfl;simp only [Nat.add_zero] at d0;exact⟨b',off',e,hbb,d0,d1⟩
 have HQ:Hid (∀x∈rs,∀W',Below W.heap.size W W'→Calls Tryz.prog 41 #[.pointer (some ⟨x.g,0,none⟩),.int .i64 a,.int .i64 b] W' fun e W2=>e=.returned (.tuple #[.int .i64 (ofT L.l x.r a b).1,.int .i64 (ofT L.l x.r a b).2])∧Below W'.heap.size W' W2):=LH fun x hx W' hb'=>by
  obtain⟨Fx,hd,_⟩:=h4.d x hx;exact quant_Of W' x.g L.K L.l k x.r Fx a b (hd.below hb') (hr x hx) hb.2
 have H64:=LH h64;have l1:decide (b<1) =false:=by simp;omega
 have l2:decide (a<0) =false:=by simp;omega
 have l3:decide (b<a) =false:=by simp;omega
 have cc:=bC h4.xs;have zc:=lB h4.xs;clear h1 h2 h3 h4 ha hb hr h64
 go_enter Tryz.func15,Tryz.ntmps15
 go_wp2_with fail;clear l1 l2 l3 cc zc
 go_loopw [33,8] (fun i v wr=>∃t:Nat,i=.int .i64 t∧t≤rs.length∧Below W.heap.size W wr∧Own wr W.heap.size 3 encZ v ((rs.take t).map (trendF L.l a b))) (fun i _ _=>rs.length - (intOf i).toNat)
 case atStart=>exact⟨0,rfl,Nat.zero_le _,Below.refl _ _,Own.nil _ _ _ _⟩
 case round=>
  obtain⟨t,rfl,ht,hbr,ho⟩:=hrel;have BR:=LH hbr;obtain⟨Av,cv,rfl,_⟩:=ho.form;rw [List.length_map,List.length_take,Nat.min_eq_left ht] at ho;have KO:=LH ho;by_cases hlt:t<rs.length
  ·obtain⟨bb,oo,rfl,hbb,e0,e1⟩:=HC.out t hlt
   have d0:=(hbr.cell (p:=⟨bb,oo+t*2,none⟩) hbb).trans e0;have d1:=(hbr.cell (p:=⟨bb,oo+t*2+1,none⟩) hbb).trans e1;have zb:bb<wr.heap.size:=Nat.lt_of_lt_of_le hbb hbr.size;have hm:rs[t]∈rs:=List.getElem_mem hlt;have HE:Hid ((rs.take t).map (trendF L.l a b) ++ [trendF L.l a b rs[t]] = (rs.take (t+1)).map (trendF L.l a b)):=LH (by rw [List.take_succ_eq_append_getElem hlt,List.map_append];rfl);have HTl:Hid (((rs.take t).map (trendF L.l a b)).length=t):=LH (by rw [List.length_map,List.length_take];omega);have hal:=(Below.refl wr.heap.size wr).alloc (Nat.le_refl _) (.cells #[.pointer (some ⟨rs[t].g,0,none⟩),.int .u64 rs[t].c] 79);have HB1:=LH hal;have HQ1:=LH (fun W' hb'=>HQ.out _ hm W' hb');have X1:=LH (heap_alloc_new wr (.cells #[.pointer (some ⟨rs[t].g,0,none⟩),.int .u64 rs[t].c] 79));obtain⟨T,hT⟩ : ∃T,T= (rs.take t).map (trendF L.l a b):=⟨_,rfl⟩;rw [←hT] at KO HE HTl;obtain⟨x,hx⟩ : ∃x,x=rs[t]:=⟨_,rfl⟩;rw [←hx] at d0 d1 HE HB1 HQ1 X1;obtain⟨px,hpx⟩ : ∃p,p=wr.heap.size:=⟨_,rfl⟩;clear hx hm e0 e1 hal hbr ho hT;go_upto_region 9 with fail;clear d0 d1 zb;rw [←hpx] at X1⊢;clear hpx;have O1:=LH (KO.out.below HB1.out);have BB1:=LH (Below.then_ BR.out HB1.out);generalize wr.alloc (.cells #[.pointer (some ⟨x.g,0,none⟩),.int .u64 x.c] 79) =w1 at X1 O1 BB1 HB1⊢;have cx:=bC X1.out;have zx:=lB X1.out;go_wp2_with fail;refine(HQ1.out _ BB1.out).mono ?_;rintro e w2 ⟨rfl,hb2⟩;have O2:=LH (O1.out.below hb2);have BB2:=LH (Below.then_ BB1.out hb2);clear hb2 cx zx HQ1 O1 BB1 X1;have hTF:trendF L.l a b x=if (ofT L.l x.r a b).2=0 then (ofT L.l x.r a b).1 else -1:=rfl;rw [hTF] at HE;clear hTF;generalize (ofT L.l x.r a b).1=u at HE⊢;generalize (ofT L.l x.r a b).2=er at HE⊢;have hsz:=BB2.out.size;by_cases her:er=0
   ·rw [if_pos her] at HE
    have ge: (er != 0) =false:=by simpa using her
    go_wp2_with ((at_builtin;refine wpList_push tyZ rfl _ _ rfl encZ w2 W.heap.size _ T rfl O2.out u (by go_simp) rfl ?c1 ?c2 ?c3 ?c4))
    case c1=>exact small_c1 HTl.out hlt H64.out
    case c2=>exact small_c2 HTl.out hlt H64.out
    case c3=>exact hsz
    case c4=>
     intro v' w3 ho' _ _ _ hb' _;rw [HE.out] at ho';have O3:=LH ho';have BB3:=LH (BB2.out.trans hb');clear ho' hb';go_wp2_with fail;have hwr:=wrap_s64 hlt H64.out;go_roundw
     case rel=>exact⟨t+1,by rw [hwr],hlt,BB3.out,O3.out⟩
     case measure=>
      rw [hwr];exact Nat.sub_lt_sub_left hlt (Nat.lt_succ_self t)
   ·rw [if_neg her] at HE
    have ge: (er != 0) =true:=by simpa using her
    go_wp2_with ((at_builtin;refine wpList_push tyZ rfl _ _ rfl encZ w2 W.heap.size _ T rfl O2.out (-1) (by go_simp) rfl ?c1 ?c2 ?c3 ?c4))
    case c1=>exact small_c1 HTl.out hlt H64.out
    case c2=>exact small_c2 HTl.out hlt H64.out
    case c3=>exact hsz
    case c4=>
     intro v' w3 ho' _ _ _ hb' _;rw [HE.out] at ho';have O3:=LH ho';have BB3:=LH (BB2.out.trans hb');clear ho' hb';go_wp2_with fail;have hwr:=wrap_s64 hlt H64.out;go_roundw
     case rel=>exact⟨t+1,by rw [hwr],hlt,BB3.out,O3.out⟩
     case measure=>
      rw [hwr];exact Nat.sub_lt_sub_left hlt (Nat.lt_succ_self t)
  ·obtain rfl:t=rs.length:=by omega
   rw [List.take_length] at KO;clear ho hbr;go_wp2_with fail;exact bR (v:=.tuple #[.slice Av rs.length cv,.int .i64 0]) (by simp only [results,Tryz.results15];go_simp) rfl ⟨Av,cv,rfl,KO.out,BR.out⟩
def ordV (a b c d:Nat) :Int:=cmpV (a*b) (c*d)
theorem table_N {w:World} {L B g:Nat} {n:Int} {lt ft:List Nd} (h:TabAt w L B g n lt ft) :
 Calls Tryz.prog 133 #[.pointer (some ⟨g,0,none⟩)] w fun e w'=>e=.returned (.int .i64 n)∧Below w.heap.size w w':=by
 obtain⟨h0,h0',A1,c1,A2,c2,A3,c3,A4,c4,h1,_,_⟩:=h;have c:=bC h1;have z:=lB h1;clear h1
 go_enter Tryz.func133,Tryz.ntmps133
 go_wp2_with fail;go_ret;exact⟨rfl,bE⟩
end Go.Proofs.YtlgnakobjkhmhaaGreatDoor
