/-
  Texts of this proof, one behind the other: EpWholeL, CrewLen, OpenB1, EpochWholeW.
-/
import Derived.Test.YtmdidmclfbfmiaaGreatDoorS2
import Derived.Test.YtmdidmclfbfmiaaGreatDoorS10
import Derived.Test.YtmdidmclfbfmiaaGreatDoorS12
set_option linter.unusedVariables false
set_option linter.unusedSimpArgs false
set_option maxRecDepth 100000
set_option maxHeartbeats 16000000
namespace Go.Proofs.YtmdidmclfbfmiaaGreatDoor
open Go.ChangeShapes Go.WideShapes Go.ChangeAt Go.RowKit
def KidCl (ps:List Int) (c:Nat) :Prop:=∀(a b:Nat),c.testBit a=true→ps[b]? =some (a:Int)→c.testBit b=true
section
variable {ps:List Int} {c d a i j p:Nat}
theorem UpIn.head (h:UpIn ps c i j) :c.testBit i=true:=by cases h <;> assumption
theorem UpIn.len (h:UpIn ps c i j) {l:List Nat} (hw:IsWay ps i l) : ∃l',IsWay ps j l'∧l'.length≤l.length:=by
 induction h generalizing l with
 |here h=>exact⟨l,hw,Nat.le_refl _⟩
 |up h e _ ih=>
  cases hw with
  |root e'=>rw [e] at e';have:=Option.some.inj e';omega
  |up e' h2=>
   rw [e] at e';obtain rfl:=Int.ofNat_inj.1 (Option.some.inj e');obtain⟨l2,h3,h4⟩:=ih h2;exact⟨l2,h3,Nat.le_trans h4 (by simp)⟩
theorem no_loop (hR:rightG ps=true) (hp:ps[i]? =some (p:Int)) (h:UpIn ps c p i) :False:=by
 have hi:=(List.getElem?_eq_some_iff.1 hp).1;obtain⟨l,hl,_⟩:=rightG_ways hR i hi
 cases hl with
 |root e=>rw [hp] at e;have:=Option.some.inj e;omega
 | @up _ p' l' e h2=>
  rw [hp] at e;obtain rfl:=Int.ofNat_inj.1 (Option.some.inj e);obtain⟨l3,h3,h4⟩:=h.len h2;have h5:=h3.unique (.up hp h2);rw [h5,List.length_cons] at h4;omega
theorem UpIn.two (h:UpIn ps c a i) (g:UpIn ps d a p) :UpIn ps c p i∨d.testBit i=true:=by
 induction h with
 |here _=>exact .inr g.head
 |up hb e h2 ih=>
  cases g with
  |here _=>exact .inl (.up hb e h2)
  |up hb' e' g2=>
   rw [e] at e';obtain rfl:=Int.ofNat_inj.1 (Option.some.inj e');exact ih g2
theorem apart_of (hR:rightG ps=true) (hp:ps[i]? =some (p:Int)) (hz: ∀a,d.testBit a=true→UpIn ps d a i) (hc: ∀a,c.testBit a=true→UpIn ps c a p) (hi:c.testBit i=false) :c &&& d=0:=by
 apply Nat.eq_of_testBit_eq
 intro a;rw [Nat.testBit_and,Nat.zero_testBit]
 cases h1:c.testBit a
 ·rfl
 cases h2:d.testBit a
 ·rfl
 exfalso
 rcases (hz a h2).two (hc a h1) with h|h
 ·exact no_loop hR hp h
 ·rw [hi] at h;cases h
theorem KidCl.all (h:KidCl ps c) (hR:rightG ps=true) (hr:c.testBit (rootG ps) =true) {l:List Nat} (hw:IsWay ps i l) :c.testBit i=true:=by
 induction hw with
 |root e=>
  have hc:ps.count (-1) =1:=by have:=hR;simp only [rightG,Bool.and_eq_true,decide_eq_true_eq] at this;exact this.2
  rw [count_one hc e (rightG_root hR)];exact hr
 |up e _ ih=>exact h _ _ ih e
end
structure SW (ps:List Int) (j:Nat) (x:SR) :Prop where
 ti:x.1.ti=0
 hs: ∀b:Nat,x.1.heard.testBit b=true→ps[b]? =some (j:Int)∧x.1.cover.testBit b=true
 hk: ∀b:Nat,ps[b]? =some (j:Int)→x.1.cover.testBit b=true→x.1.heard.testBit b=true
 cl: ∀a b:Nat,x.1.cover.testBit a=true→ps[b]? =some (a:Int)→a=j∨x.1.cover.testBit b=true
 sn:x.1.sent=true→∀b:Nat,ps[b]? =some (j:Int)→x.1.heard.testBit b=true
theorem SW.closed {ps:List Int} {j:Nat} {x:SR} (h:SW ps j x) (hs:x.1.sent=true) :KidCl ps x.1.cover:=fun a b ha hb=>by
 rcases h.cl a b ha hb with rfl|h1
 ·exact(h.hs b (h.sn hs b hb)).2
 ·exact h1
def LW (ps:List Int) (E:Int) (i:Nat) (y:It) :Prop:=∃(z:Ltr) (p:Nat),y.2.data.toList=ltrT z∧rightL z=true∧z.e=E∧z.f= (i:Int)∧y.1= (p:Int)∧ps[i]? =some (p:Int)∧z.c.testBit i=true∧KidCl ps z.c
def unS:List SR→Nat
 | []=>0
 |x :: t=>(if x.1.sent=true then 0 else 1) +unS t
theorem unS_set: ∀{ss:List SR} {i:Nat} {x y:SR},ss[i]? =some x→unS (ss.set i y) + (if x.1.sent=true then 0 else 1) =unS ss+ (if y.1.sent=true then 0 else 1)
 | [],i,x,y,h=>by simp at h
 |z :: t,0,x,y,h=>by
  simp only [List.getElem?_cons_zero,Option.some.injEq] at h;subst h;simp only [List.set_cons_zero,unS];omega
 |z :: t,i+1,x,y,h=>by
  simp only [List.getElem?_cons_succ] at h;have:=unS_set (y:=y) h;simp only [List.set_cons_succ,unS];omega
theorem unS_all: ∀{ss:List SR},(∀x∈ss,x.1.sent=false)→unS ss=ss.length
 | [],_=>rfl
 |x :: t,h=>by
  unfold unS;rw [unS_all fun y hy=>h y (by simp [hy]),if_neg (by rw [h x (by simp)];decide),List.length_cons];omega
structure EpWh (ps:List Int) (E:Int) (c:Nat) (m:EpM) :Prop where
 s: ∀(j:Nat) x,m.ss[j]? =some x→SW ps j x
 w: ∀y∈m.wv.items,∃i,LW ps E i y
 f: ∀i p:Nat,ps[i]? =some (p:Int)→SentA m i→(∃x,m.ss[p]? =some x∧x.1.heard.testBit i=true)∨∃y∈m.wv.items,LW ps E i y
 n:m.wv.items.length+unS m.ss≤c
theorem cut_mem2 {α:Type} {l:List α} {q:Nat} (hq:q<l.length) {y:α} (hy:y∈l) :y∈l.take q ++ l.drop (q+1)∨y=l[q]:=by
 have e:l=l.take q ++ l[q] :: l.drop (q+1):=by
  rw [List.getElem_cons_drop,List.take_append_drop]
 rw [e] at hy;rcases List.mem_append.1 hy with h|h
 ·exact .inl (List.mem_append_left _ h)
 ·rcases List.mem_cons.1 h with h|h
  ·exact .inr h
  ·exact .inl (List.mem_append_right _ h)
theorem take_items {s:WS} {q:Nat} (hq:q<s.items.length) : (s.take q).items=s.items.take q ++ s.items.drop (q+1):=by
 unfold WS.take;rw [if_pos (by unfold WS.has;simp;omega)]
 rfl
theorem copy_items (s:WS) (i:Int) : ((s.copy i).1.items=s.items∨∃y,(s.copy i).1.items=s.items ++ [y]):=by
 unfold WS.copy
 split
 ·split
  ·exact .inl rfl
  ·exact .inr ⟨_,rfl⟩
 ·exact .inl rfl
section
variable {l K:Nat} {k wt:Int} {ps:List Int} {E:Int} {D:Nat→List Nd} {N:Nat→Int} {m m':EpM} {is:List Nat} {i j c:Nat} {x:SR} {o:Stp} {e:Int}
theorem SW.ready (h:SW ps j x) (hj:EpJ l K k wt ps E D N m) (hx:m.ss[j]? =some x) (hr:readyS x.1=true) :x.1.sent=false∧∀b:Nat,ps[b]? =some (j:Int)→x.1.heard.testBit b=true:=by
 unfold readyS at hr;rw [Bool.and_eq_true,Bool.or_eq_true,decide_eq_true_eq,decide_eq_true_eq] at hr;obtain⟨h1,h2⟩:=hr;refine⟨by simpa using h1,fun b hb=> ?_⟩;have hp:=(hj.s j x hx).p;have hw:=hj.wt1;rcases h2 with h2|h2
 ·rw [h2,hp]
  have hl:=(rightG_len hj.tree).2;have h3:=kidsC_of hl hb;have hb48:=(List.getElem?_eq_some_iff.1 hb).1
  rwa [bit_has (by omega)] at h3
 ·rw [h.ti,hp] at h2
  have h2:wt≤0:=h2;omega
theorem EpWh.step (h:EpWh ps E c m) (hj:EpJ l K k wt ps E D N m) (hc:c≤255) (hs:OnStep l ps m i m') :EpWh ps E c m':=by
 have hs0:=hs
 cases hs with
 |skip _ _=>exact h
 | @send x pl r' hx hr hrun=>
  have hi0:=(List.getElem?_eq_some_iff.1 hx).1;have hi:i<ps.length:=by rw [←hj.len];exact hi0
  have hw:=h.s i x hx;have hsr:=(hj.sr hx).run hrun;have hji:=hj.s i x hx;obtain⟨hns,hall⟩:=hw.ready hj hx hr;have hss: (sendM l ps m i x.1 r').ss=m.ss.set i (sentS x.1,r'):=sendM_ss _ _ _ _ _ _
  have hS: ∀j,SentA (sendM l ps m i x.1 r') j→j=i∨SentA m j:=fun j=>by
   unfold SentA;rw [hss];by_cases e:i=j
   ·subst e;exact fun _=>.inl rfl
   ·rw [List.getElem?_set_ne e];exact .inr
  have hnew:SW ps i (sentS x.1,r'):=⟨hw.ti,hw.hs,hw.hk,hw.cl,fun _=>hall⟩;have hpe:ps[i]? =some (ps.getD i 0):=by rw [List.getD_eq_getElem?_getD,List.getElem?_eq_getElem hi];rfl
  have hun:=unS_set (y:=((sentS x.1,r') :SR)) hx;rw [if_neg (by rw [hns];decide),if_pos (show (sentS x.1).sent=true from rfl)] at hun;have hn:=h.n;have hlt:m.wv.items.length≠256:=by omega
  have keyS: ∀(a:Nat) y,(sendM l ps m i x.1 r').ss[a]? =some y→SW ps a y:=fun a y hy=>by
   rw [hss] at hy;by_cases e:i=a
   ·subst e
    rw [List.getElem?_set_self hi0] at hy
    cases hy
    exact hnew
   ·rw [List.getElem?_set_ne e] at hy
    exact h.s a y hy
  have keyH: ∀(a p:Nat) x',m.ss[p]? =some x'→x'.1.heard.testBit a=true→∃z,(sendM l ps m i x.1 r').ss[p]? =some z∧z.1.heard.testBit a=true:=fun a p x' h1 h2=>by
   rw [hss];by_cases e:i=p
   ·subst e
    rw [hx] at h1
    cases h1
    exact⟨_,List.getElem?_set_self hi0,h2⟩
   ·rw [List.getElem?_set_ne e]
    exact⟨x',h1,h2⟩
  by_cases hp:ps.getD i 0<0
  ·have ew: (sendM l ps m i x.1 r').wv=m.wv:=by unfold sendM;rw [if_pos hp]
   refine⟨keyS,fun y hy=>h.w y (by rwa [ew] at hy),fun a p hap ha=> ?_,by rw [ew,hss];omega⟩;rw [ew];rcases hS a ha with rfl|ha
   ·rw [hpe] at hap
    have:=Option.some.inj hap;omega
   ·exact(h.f a p hap ha).imp (fun ⟨x',h1,h2⟩=>keyH a p x' h1 h2) id
  ·have ew: (sendM l ps m i x.1 r').wv.items=m.wv.items ++ [(ps.getD i 0,⟨(ltrT (senL l x.1 r')).toArray⟩)]:=by
    unfold sendM;rw [if_neg hp];rcases send_items m.wv (ps.getD i 0,⟨(ltrT (senL l x.1 r')).toArray⟩) with e2| ⟨_,e2⟩
    ·unfold WS.send at e2
     rw [if_neg hlt] at e2;exact absurd (congrArg List.length e2) (by simp)
    ·exact e2
   obtain⟨p0,hp0⟩:=Int.eq_ofNat_of_zero_le (show 0≤ps.getD i 0 by omega);have hR:=senL_right (r:=r') hji.ok hj.l1 hsr.fits hsr.k.1 hsr.k.2 hsr.len;have hLW:LW ps E i (ps.getD i 0,⟨(ltrT (senL l x.1 r')).toArray⟩):=⟨senL l x.1 r',p0,by simp,hR,hji.ep,(by show x.1.p.me=_;rw [hji.p]),hp0,by rw [hpe,hp0],hji.me.1,hnew.closed rfl⟩;refine⟨keyS,fun y hy=> ?_,fun a p hap ha=> ?_,by rw [ew,hss,List.length_append,List.length_singleton];omega⟩
   ·rw [ew] at hy
    rcases List.mem_append.1 hy with hy|hy
    ·exact h.w y hy
    ·rw [List.mem_singleton] at hy
     subst hy;exact⟨i,hLW⟩
   ·rw [ew]
    rcases hS a ha with rfl|ha
    ·exact .inr ⟨_,List.mem_append_right _ (List.mem_singleton_self _),hLW⟩
    ·exact(h.f a p hap ha).imp (fun ⟨x',h1,h2⟩=>keyH a p x' h1 h2) fun ⟨y,h1,h2⟩=>⟨y,List.mem_append_left _ h1,h2⟩
theorem EpWh.on (h:EpWh ps E c m) (hj:EpJ l K k wt ps E D N m) (hc:c≤255) (hs:OnTo l ps m is m') :EpWh ps E c m':=by
 induction hs with
 |nil=>exact h
 |snoc h1 h2 ih=>exact ih.step (hj.on h1) hc h2
theorem LW.now (hj:EpJ l K k wt ps E D N m) {y:It} (hy:y∈m.wv.items) {z:Ltr} (h1:y.2.data.toList=ltrT z) (h2:rightL z=true) (h3:z.e=E) (h4:z.f= (i:Int)) :
 ∃r,(∀a,z.c.testBit a=true→SentA m a∧UpIn ps z.c a i)∧readW z.b= ((l,k,sumR r,r),0)∧Covers l k D N z.c r:=by
 have hE:=hj.e1.2;have hd:decL y.2.data.toList= (z,0):=by rw [h1];exact decL_enc h2 (by omega)
 cases (hj.w y hy).1 with
 |bad h=>exact absurd (by rw [hd]) h
 |old z' a b c=>
  rw [a,decL_enc b (by omega)] at hd;obtain rfl:z'=z:=congrArg Prod.fst hd;omega
 |now z' j' r a b c d e sf g g1 g2=>
  rw [a,decL_enc b (by omega)] at hd;obtain rfl:z'=z:=congrArg Prod.fst hd;obtain rfl:i=j':=by omega
  exact⟨r,g,g1,g2⟩
theorem EpWh.take (h:EpWh ps E (c+1) m) (hj:EpJ l K k wt ps E D N m) (hc:c≤254) (ht:totN (fun j=>sumR (D j))≤72057594037927935) (hst:m.st=true) {q:Nat} (hq:q<m.wv.items.length) (h0:o.kd=1) (hi:o.i= (q:Int)) (hs:EpStep l ps m o e m') :
 (e=0∨e=18∨e=19)∧EpWh ps E c m'∧Still m'∧m'.st=true:=by
 have hy:m.wv.items[q]? =some m.wv.items[q]:=List.getElem?_eq_getElem hq;obtain⟨y,hyy⟩ : ∃y,y=m.wv.items[q]:=⟨_,rfl⟩;have hym:y∈m.wv.items:=by rw [hyy];exact List.getElem_mem hq
 obtain⟨i,z,p,z1,z2,z3,z4,z5,z6,z7,z8⟩:=h.w y hym;rw [←hyy] at hy;have hil:=(List.getElem?_eq_some_iff.1 z6).1;have hln:=rightG_len hj.tree
 have hpl:p<ps.length:=by
  have h1:=rightG_par hj.tree hil;rw [List.getD_eq_getElem?_getD,z6] at h1;simp only [Option.getD_some] at h1;omega
 obtain⟨x,hx⟩ : ∃x,m.ss[p]? =some x:=⟨_,List.getElem?_eq_getElem (by rw [hj.len];exact hpl)⟩;have hw:=h.s p x hx;have hjp:=hj.s p x hx;obtain⟨r,g,g1,g2⟩:=LW.now hj hym z1 z2 z3 z4;obtain⟨s',r',he,hh,hon⟩:=hs.take_inv h0 hst hi hy z5 hx;have hN:=hj.hearNow hx (j:=i) z1 z2 z3 z4 z6 g1;have hpos: ∀j,0≤sumR (D j):=fun j=>(hj.D_ j).sum0
 have hap:x.1.heard.testBit i=false→x.1.cover &&& z.c=0:=fun hf=>by
  refine apart_of hj.tree z6 (fun a ha=>(g a ha).2) hjp.up ?_
  cases hb:x.1.cover.testBit i
  ·rfl
  ·rw [hw.hk i z6 hb] at hf;cases hf
 have hno:x.1.cover &&& z.c=0→¬72057594037927935<sumR x.2+sumR r:=fun ha=>by
  rw [hjp.cov.sum hj.D_,g2.sum hj.D_,←wsum_or ha];have:=wsum_le_tot hpos (x.1.cover ||| z.c);omega
 have hE: (e=18∧x.1.heard.testBit i=true∧s'=x.1∧r'=x.2)∨(e=19∧x.1.heard.testBit i=true∧s'=x.1∧r'=x.2)∨(e=0∧x.1.sent=false∧s'=heardS x.1 z):=by
  rw [hN] at he;by_cases c1:x.1.sent=true
  ·rw [if_pos c1] at he
   obtain⟨w1,w2⟩:=hh.was (by rw [hN,if_pos c1];decide);exact .inl ⟨he,hw.sn c1 i z6,w1,w2⟩
  ·rw [if_neg c1] at he
   by_cases c2:x.1.heard.testBit i=true∨apartC x.1.cover z.c=false
   ·rw [if_pos c2] at he
    obtain⟨w1,w2⟩:=hh.was (by rw [hN,if_neg c1,if_pos c2];decide);refine .inr (.inl ⟨he,?_,w1,w2⟩);rcases c2 with c2|c2
    ·exact c2
    ·cases hb:x.1.heard.testBit i
     ·have:=hap hb
      unfold apartC at c2;rw [this] at c2;simp at c2
     ·rfl
   ·have hb:x.1.heard.testBit i=false:=by
     cases hb:x.1.heard.testBit i
     ·rfl
     ·exact absurd (Or.inl hb) c2
    have hz0:=hno (hap hb);rw [if_neg c2,if_neg hz0] at he;have:=hh.is (by rw [hN,if_neg c1,if_neg c2,if_neg hz0]);rw [z1,decL_enc z2 (by have:=hj.e1.2;omega)] at this;exact .inr (.inr ⟨he,by simpa using c1,this⟩)
 have hp0:=(List.getElem?_eq_some_iff.1 hx).1
 have hsent:s'.sent=x.1.sent:=by
  rcases hE with ⟨_,_,rfl,_⟩ | ⟨_,_,rfl,_⟩ | ⟨_,_,rfl⟩ <;> rfl
 have hheard:s'.heard.testBit i=true∧∀b,x.1.heard.testBit b=true→s'.heard.testBit b=true:=by
  rcases hE with ⟨_,h2,rfl,_⟩ | ⟨_,h2,rfl,_⟩ | ⟨_,_,rfl⟩
  ·exact⟨h2,fun b hb=>hb⟩
  ·exact⟨h2,fun b hb=>hb⟩
  ·show (withC x.1.heard z.f).testBit i=true∧∀b,x.1.heard.testBit b=true→(withC x.1.heard z.f).testBit b=true
   rw [z4];exact⟨by rw [withC_bit (by omega)];simp,fun b hb=>by rw [withC_bit (by omega),hb];rfl⟩
 have hSW:SW ps p (s',r'):=by
  rcases hE with ⟨_,_,rfl,rfl⟩ | ⟨_,_,rfl,rfl⟩ | ⟨_,hns,rfl⟩
  ·exact hw
  ·exact hw
  ·have or1: ∀b,(x.1.cover ||| z.c).testBit b=true↔x.1.cover.testBit b=true∨z.c.testBit b=true:=fun b=>by rw [Nat.testBit_or,Bool.or_eq_true]
   refine⟨hw.ti,fun b hb=> ?_,fun b hb hcb=> ?_,fun a b ha hb=> ?_,fun hb=> ?_⟩
   ·have hb: (withC x.1.heard z.f).testBit b=true:=hb
    show ps[b]? =some (p:Int)∧(x.1.cover ||| z.c).testBit b=true
    rw [z4,withC_bit (by omega),Bool.or_eq_true,decide_eq_true_eq] at hb;rcases hb with hb|rfl
    ·exact⟨(hw.hs b hb).1,(or1 b).2 (.inl (hw.hs b hb).2)⟩
    ·exact⟨z6,(or1 _).2 (.inr z7)⟩
   ·have hcb: (x.1.cover ||| z.c).testBit b=true:=hcb
    show (withC x.1.heard z.f).testBit b=true
    rw [z4,withC_bit (by omega),Bool.or_eq_true,decide_eq_true_eq];rcases (or1 b).1 hcb with hcb|hcb
    ·exact .inl (hw.hk b hb hcb)
    ·right
     have hu:=(g b hcb).2
     cases hu with
     |here _=>rfl
     |up _ e' h2=>
      rw [hb] at e';obtain rfl:=Int.ofNat_inj.1 (Option.some.inj e');exact(no_loop hj.tree z6 h2).elim
   ·have ha: (x.1.cover ||| z.c).testBit a=true:=ha
    show a=p∨(x.1.cover ||| z.c).testBit b=true
    rcases (or1 a).1 ha with ha|ha
    ·exact(hw.cl a b ha hb).imp id fun h=>(or1 b).2 (.inl h)
    ·exact .inr ((or1 b).2 (.inr (z8 a b ha hb)))
   ·have hb:x.1.sent=true:=hb
    rw [hns] at hb;cases hb
 have hit:=take_items (s:=m.wv) hq
 have h1:EpWh ps E c (({m with wv:=m.wv.take q} :EpM).setS p (s',r')):=by
  refine⟨fun a y' hy'=> ?_,fun y' hy'=>h.w y' (take_mem hy'),fun a p' hap' ha=> ?_,?_⟩
  ·have hy': (m.ss.set p (s',r'))[a]? =some y':=hy'
   by_cases e1:p=a
   ·subst e1
    rw [List.getElem?_set_self hp0] at hy'
    cases hy'
    exact hSW
   ·rw [List.getElem?_set_ne e1] at hy'
    exact h.s a y' hy'
  ·have ha':SentA m a:=(SentA.set (m:=({m with wv:=m.wv.take q} :EpM)) (x':=(s',r')) hx hsent a).1 ha
   show (∃x,(m.ss.set p (s',r'))[p']? =some x∧_)∨∃y∈(m.wv.take q).items,_
   have keyH: ∀x',m.ss[p']? =some x'→x'.1.heard.testBit a=true→∃x,(m.ss.set p (s',r'))[p']? =some x∧x.1.heard.testBit a=true:=fun x' g1 g2=>by
    by_cases e1:p=p'
    ·subst e1
     rw [hx] at g1
     cases g1
     exact⟨_,List.getElem?_set_self hp0,hheard.2 a g2⟩
    ·rw [List.getElem?_set_ne e1]
     exact⟨x',g1,g2⟩
   rcases h.f a p' hap' ha' with ⟨x',g1,g2⟩ | ⟨y',g1,g2⟩
   ·exact .inl (keyH x' g1 g2)
   ·rcases cut_mem2 hq g1 with g3|g3
    ·exact .inr ⟨y',by rw [hit];exact g3,g2⟩
    ·left
     rw [←hyy] at g3;subst g3;obtain⟨z',p2,u1,u2,u3,u4,u5,u6,_⟩:=g2;have hd:decL y'.2.data.toList= (z,0):=by rw [z1];exact decL_enc z2 (by have:=hj.e1.2;omega)
     rw [u1,decL_enc u2 (by have:=hj.e1.2;omega)] at hd;obtain rfl:z'=z:=congrArg Prod.fst hd;obtain rfl:i=a:=by omega
     rw [z6] at hap';obtain rfl:=Int.ofNat_inj.1 (Option.some.inj hap');exact⟨_,List.getElem?_set_self hp0,hheard.1⟩
  ·show (m.wv.take q).items.length+unS (m.ss.set p (s',r'))≤c
   have hun:=unS_set (y:=((s',r') :SR)) hx;rw [show ((s',r') :SR).1.sent=x.1.sent from hsent] at hun;have hn:=h.n;rw [hit,List.length_append,List.length_take,List.length_drop];omega
 have h2:EpJ l K k wt ps E D N (({m with wv:=m.wv.take q} :EpM).setS p (s',r')):=
  EpJ.hear (x:=x) (h:=hj.wave fun z hz=>hj.w z (take_mem hz)) hx (hj.w y hym).1 hh
 refine⟨?_,h1.on h2 (by omega) hon,hon.still hj.tree (by show (m.ss.set p (s',r')).length=_;rw [List.length_set];exact hj.len),hon.st.trans hst⟩;rcases hE with ⟨h,_⟩ | ⟨h,_⟩ | ⟨h,_⟩
 ·exact .inr (.inl h)
 ·exact .inr (.inr h)
 ·exact .inl h
theorem EpWh.copy (h:EpWh ps E c m) (hst:m.st=true) (h0:o.kd=3) (hs:EpStep l ps m o e m') :EpWh ps E (c+1) m'∧(Still m→Still m')∧m'.st=true∧m.wv.items.length≤m'.wv.items.length:=by
 have hm:m'= {m with wv:=(m.wv.copy o.i).1}:=by
  cases hs with
  |copy h1 h2=>rfl
  |early h1 h2 h3 h4=>rw [hst] at h4;cases h4
  |tick h1 h2 ho=>omega
  |put_no h1 h2=>omega
  |put h1=>omega
  |take_no h1=>omega
  |take h1=>omega
  |lose h1=>omega
  |spoil h1=>omega
  |late h1=>omega
  |start h1=>omega
  |next_no h1=>omega
  |limit h1=>omega
  |next h1=>omega
 subst hm;have hn:=h.n;rcases copy_items m.wv o.i with e1| ⟨y,e1⟩
 ·refine⟨⟨h.s,fun y hy=>h.w y (copy_mem hy),fun a p h1 h2=> ?_,?_⟩,fun hq=>hq,hst,Nat.le_of_eq (congrArg List.length e1).symm⟩
  ·exact(h.f a p h1 h2).imp id fun ⟨y,g1,g2⟩=>⟨y,by show y∈(m.wv.copy o.i).1.items;rw [e1];exact g1,g2⟩
  ·show (m.wv.copy o.i).1.items.length+unS m.ss≤c+1
   rw [e1];omega
 ·refine⟨⟨h.s,fun y hy=>h.w y (copy_mem hy),fun a p h1 h2=> ?_,?_⟩,fun hq=>hq,hst,?_⟩
  ·exact(h.f a p h1 h2).imp id fun ⟨y,g1,g2⟩=>⟨y,by show y∈(m.wv.copy o.i).1.items;rw [e1];exact List.mem_append_left _ g1,g2⟩
  ·show (m.wv.copy o.i).1.items.length+unS m.ss≤c+1
   rw [e1,List.length_append,List.length_singleton];omega
  ·show m.wv.items.length≤(m.wv.copy o.i).1.items.length
   rw [e1,List.length_append];omega
structure EpNw (m:EpM) :Prop where
 st:m.st=false
 s: ∀(j:Nat) x,m.ss[j]? =some x→x.1.ti=0∧x.1.heard=0∧x.1.sent=false∧x.1.cover=withC 0 (j:Int)
 w:m.wv.items= []
theorem EpNw.new {ep:Int} :EpNw (epNew ps l k K wt ep):=⟨rfl,fun j x hx=>by
 have hx: ((List.range ps.length).map fun i=>((senNew l k K (plcE ps wt i) ep, []) :SR))[j]? =some x:=hx;rw [List.getElem?_map] at hx;obtain⟨y,hy,rfl⟩:=Option.map_eq_some_iff.1 hx;have hi:=(List.getElem?_eq_some_iff.1 hy).1;rw [List.length_range] at hi;rw [List.getElem?_range hi] at hy
 cases hy
 exact⟨rfl,rfl,rfl,rfl⟩,rfl⟩
theorem EpNw.put (h:EpNw m) (h0:o.kd=0) (hs:EpStep l ps m o e m') :EpNw m':=by
 cases hs with
 |put_no h1 h2=>exact h
 | @put i x r' h1 h2 hx hp=>
  refine⟨h.st,fun j y hy=> ?_,h.w⟩;have hi0:=(List.getElem?_eq_some_iff.1 hx).1;have hy: (m.ss.set i (x.1,r'))[j]? =some y:=hy;by_cases e1:i=j
  ·subst e1
   rw [List.getElem?_set_self hi0] at hy
   cases hy
   exact h.s i x hx
  ·rw [List.getElem?_set_ne e1] at hy
   exact h.s j y hy
 |early h1=>omega
 |take_no h1=>omega
 |take h1=>omega
 |lose h1=>omega
 |copy h1=>omega
 |spoil h1=>omega
 |late h1=>omega
 |start h1=>omega
 |next_no h1=>omega
 |limit h1=>omega
 |next h1=>omega
 |tick h1=>omega
theorem EpNw.start (h:EpNw m) (hj:EpJ l K k wt ps E D N m) (h0:o.kd=6) (hs:EpStep l ps m o e m') :e=0∧EpWh ps E ps.length m'∧Still m'∧m'.st=true:=by
 obtain⟨rfl,h1⟩:=hs.start_inv h0 h.st;have hln:=rightG_len hj.tree;have hjl: ∀(j:Nat) x,m.ss[j]? =some x→j<48:=fun j x hx=>by have:=(List.getElem?_eq_some_iff.1 hx).1;have:=hj.len;omega
 have hW:EpWh ps E ps.length {m with st:=true}:=by
  refine⟨fun j x hx=> ?_,fun y hy=> ?_,fun a p _ ⟨x,hx,ha⟩=> ?_,?_⟩
  ·obtain⟨g1,g2,g3,g4⟩:=h.s j x hx
   have hj48:=hjl j x hx;have hbit: ∀b,x.1.cover.testBit b=true→j=b:=fun b hb=>by rw [g4,withC_zero hj48,decide_eq_true_eq] at hb;exact hb
   refine⟨g1,fun b hb=>(by rw [g2,Nat.zero_testBit] at hb;cases hb),fun b hb hc=> ?_,fun a b ha _=>.inl (hbit a ha).symm,fun hs=>(by rw [g3] at hs;cases hs)⟩;obtain rfl:=hbit b hc;exact(no_loop (c:=x.1.cover) hj.tree hb (.here hc)).elim
  ·have hy:y∈m.wv.items:=hy
   rw [h.w] at hy
   cases hy
  ·rw [(h.s a x hx).2.2.1] at ha
   cases ha
  ·show m.wv.items.length+unS m.ss≤ps.length
   rw [h.w,unS_all fun x hx=> ?_,hj.len]
   ·simp
   ·obtain⟨j,hj⟩:=List.getElem?_of_mem hx
    exact(h.s j x hj).2.2.1
 exact⟨rfl,hW.on (hj.flag true) (by omega) h1,OnTo.still (m:={m with st:=true}) hj.tree hj.len h1,OnTo.st (m:={m with st:=true}) h1⟩
theorem EpWh.all_ (h:EpWh ps E c m) (hj:EpJ l K k wt ps E D N m) (hq:Still m) (h0:m.wv.items= []) (hl:j<ps.length) (hk: ∀b:Nat,ps[b]? =some (j:Int)→SentA m b) :SentA m j:=by
 obtain⟨x,hx⟩ : ∃x,m.ss[j]? =some x:=⟨_,List.getElem?_eq_getElem (by rw [hj.len];exact hl)⟩;have hln:=rightG_len hj.tree;have hw:=h.s j x hx;have hr:=hq j x hx
 have e:x.1.heard=x.1.p.kids:=by
  rw [(hj.s j x hx).p];show x.1.heard=kidsC ps j
  apply Nat.eq_of_testBit_eq
  intro b;unfold kidsC;rw [kidF_bit ps j _ hln.2]
  cases hb:x.1.heard.testBit b
  ·symm
   rw [Bool.and_eq_false_iff,decide_eq_false_iff_not,decide_eq_false_iff_not]
   right
   intro hp;rcases h.f b j hp (hk b hp) with ⟨x',g1,g2⟩ | ⟨y,g1,_⟩
   ·rw [hx] at g1
    cases g1
    rw [hb] at g2
    cases g2
   ·rw [h0] at g1
    cases g1
  ·have hp:=(hw.hs b hb).1
   symm
   rw [Bool.and_eq_true,decide_eq_true_eq,decide_eq_true_eq];exact⟨(List.getElem?_eq_some_iff.1 hp).1,hp⟩
 refine⟨x,hx,?_⟩;unfold readyS at hr;rw [e] at hr
 simpa using hr
theorem EpWh.all (h:EpWh ps E c m) (hj:EpJ l K k wt ps E D N m) (hq:Still m) (h0:m.wv.items= []) : ∀(d j:Nat) (w:List Nat),IsWay ps j w→ps.length≤w.length+d→j<ps.length→SentA m j:=by
 intro d
 induction d with
 |zero=>
  intro j w hw hd hjl;refine EpWh.all_ h hj hq h0 hjl fun b hb=> ?_;have hbl:=(List.getElem?_eq_some_iff.1 hb).1;obtain⟨w2,hw2,h2⟩:=rightG_ways hj.tree b hbl;have:=hw2.unique (.up hb hw);subst this;simp at h2
  omega
 |succ d ih=>
  intro j w hw hd hjl;refine EpWh.all_ h hj hq h0 hjl fun b hb=> ?_;exact ih b _ (.up hb hw) (by simp;omega) (List.getElem?_eq_some_iff.1 hb).1
theorem EpWh.fin (h:EpWh ps E c m) (hj:EpJ l K k wt ps E D N m) (hq:Still m) (h0:m.wv.items= []) (hx:m.ss[rootG ps]? =some x) :m.en=true∧∀j,x.1.cover.testBit j=true↔j<ps.length:=by
 have hr0:=rightG_root hj.tree;have hrl:=(List.getElem?_eq_some_iff.1 hr0).1;have hs:SentA m (rootG ps):=h.all hj hq h0 ps.length (rootG ps) _ (.root hr0) (by omega) hrl;refine⟨hj.en.2 hs,fun j=>⟨(hj.cover hx).1 j,fun hjl=> ?_⟩⟩;obtain⟨x',h1,h2⟩:=hs;rw [hx] at h1
 cases h1
 obtain⟨w,hw,_⟩:=rightG_ways hj.tree j hjl;exact((h.s _ x hx).closed h2).all hj.tree (hj.cover hx).2 hw
theorem eachL_all {s n:Nat} (hn:n≤48) (h: ∀j,s.testBit j=true↔j<n) : (eachL s).length=n:=by
 have e:eachL s=List.range n:=by
  unfold eachL;obtain⟨d,hd⟩ : ∃d,48=n+d:=⟨48 - n,by omega⟩;rw [hd,List.range_add,List.filter_append]
  have h1: ((List.range d).map (n+ ·)).filter (fun j=>s.testBit j) = []:=by
   rw [List.filter_eq_nil_iff];intro a ha hb;obtain⟨b,_,rfl⟩:=List.mem_map.1 ha;have:=(h _).1 hb;omega
  have h2: (List.range n).filter (fun j=>s.testBit j) =List.range n:=by
   rw [List.filter_eq_self];intro a ha;exact(h a).2 (List.mem_range.1 ha)
  rw [h1,h2,List.append_nil]
 rw [e,List.length_range]
end
structure AllB (l n:Nat) (D:Nat→List Nd) (M:List Nd) :Prop where
 b:BagL l M
 g: ∀id,getR (leaves l M) id=wsum (fun j=>getR (leaves l (D j)) id) 281474976710655
 s:sumR M=totN (fun j=>sumR (D j))
 z: ∀j,n≤j→D j= []
section
variable {l n K:Nat} {k wt:Int} {ps:List Int} {E:Int} {D:Nat→List Nd} {N:Nat→Int} {m:EpM} {M:List Nd} {x:SR}
theorem AllB.nil:AllB l n (fun _=> []) []:=by
 refine⟨.nil l,fun id=> ?_,?_,fun _ _=>rfl⟩
 ·rw [show (fun j:Nat=>getR (leaves l []) id) =fun _=>0 from rfl]
  exact(totN_zero).symm
 ·rw [show (fun j:Nat=>sumR ([] :List Nd)) =fun _=>0 from rfl]
  exact(totN_zero).symm
theorem AllB.sum (h:AllB l n D M) :totN (fun j=>sumR (D j))≤72057594037927935:=by rw [←h.s];exact h.b.sum
theorem AllB.put (h:AllB l n D M) (hn:n≤48) {i:Nat} (hi:i<n) {v w:Int} (hD:BagL l (D i)) (ha:addB l M v w= (addR M v w,0)) :AllB l n (upd D i (addR (D i) v w)) (addR M v w):=by
 have hb:=h.b.addB v w;rw [ha] at hb;refine⟨hb,fun id=> ?_,?_,fun j hj=>by rw [upd_other _ _ _ (by omega)];exact h.z j hj⟩
 ·rw [leaves_add,getR_add (leaves_roll h.b)]
  by_cases he:id=2^l+v
  ·subst he
   rw [if_pos rfl,h.g];refine(wsum_upd (i:=i) (by omega) (fun j hj=>by rw [upd_other _ _ _ hj]) ?_ (full_bit (by omega))).symm;rw [upd_same,leaves_add,getR_add (leaves_roll hD),if_pos rfl]
  ·rw [if_neg he,h.g]
   refine wsum_cong fun j hj hc=> ?_;by_cases hji:j=i
   ·subst hji
    rw [upd_same,leaves_add,getR_add (leaves_roll hD),if_neg he]
   ·rw [upd_other _ _ _ hji]
 ·rw [sumR_add,h.s]
  refine(wsum_upd (i:=i) (by omega) (fun j hj=>by rw [upd_other _ _ _ hj]) ?_ (full_bit (by omega))).symm;rw [upd_same,sumR_add]
theorem AllB.held (h:AllB l n D M) {c:Nat} {r:List Nd} (hc:Covers l k D N c r) (ha: ∀j,c.testBit j=true↔j<n) :Held l k r M:=by
 obtain⟨m,h1,h2⟩:=hc.held;refine h1.swap h.b fun id=> ?_;rw [h2,h.g]
 have key: ∀(f:Nat→Int),(∀j,n≤j→f j=0)→∀q,q≤48→wsumN f c q=wsumN f 281474976710655 q:=fun f hf q=>by
  induction q with
  |zero=>intro _;rfl
  |succ q ih=>
   intro hq;unfold wsumN;rw [ih (by omega),if_pos (full_bit (by omega))];by_cases hb:c.testBit q=true
   ·rw [if_pos hb]
   ·rw [if_neg hb,hf q (Nat.le_of_not_lt fun hl=>hb ((ha q).2 hl))]
 exact key _ (fun j hj=>by rw [h.z j hj];rfl) 48 (Nat.le_refl _)
end
def pop1 (x:Int) :Int:=IntKind.u64.wrap (bits .and .u64 (x / 2) 6148914691236517205+bits .and .u64 x 6148914691236517205)
def pop2 (x:Int) :Int:=IntKind.u64.wrap (bits .and .u64 (x / 4) 3689348814741910323+bits .and .u64 x 3689348814741910323)
def pop3 (x:Int) :Int:=bits .and .u64 (IntKind.u64.wrap (x / 16+x)) 1085102592571150095
def pop4 (x:Int) :Int:=IntKind.u64.wrap (x+x / 256)
def pop5 (x:Int) :Int:=IntKind.u64.wrap (x+x / 65536)
def pop6 (x:Int) :Int:=IntKind.u64.wrap (x+x / 4294967296)
def popV (x:Int) :Int:=bits .and .i64 (wrap64 (pop6 (pop5 (pop4 (pop3 (pop2 (pop1 x))))))) 127
theorem pop_all: ∀x:Fin 4096,popV (x.1:Int) = ((eachL x.1).length:Nat):=by decide+kernel
theorem ones64 (x:Nat) (hx:x<4096) (w:World) :Calls Tryz.prog 57 #[.int .u64 x] w fun e w'=>e=.returned (.int .i64 ((eachL x).length:Nat))∧w'=w:=by
 have hv:=pop_all ⟨x,hx⟩;dsimp only at hv;rw [←hv]
 go_enter Tryz.func57,Tryz.ntmps57
 go_wp2_with fail;go_ret;exact⟨rfl,rfl⟩
theorem crew_Len (s:Nat) (hs:s<4096) (w:World) :Calls Tryz.prog 21 #[.int .u64 s] w fun e w'=>e=.returned (.int .i64 ((eachL s).length:Nat))∧Below w.heap.size w w':=by
 have hand:bits BinOp.and IntKind.u64 (s:Int) 281474976710655= (s:Int):=by
  have h:=bits_and_u64_nat s 281474976710655 (by omega) (by decide)
  have e:s &&& 281474976710655=s:=by
   rw [show (281474976710655:Nat) =2^48 - 1 from rfl,Nat.and_two_pow_sub_one_eq_mod];exact Nat.mod_eq_of_lt (by omega)
  rw [e] at h;exact h
 have HO:=LH (ones64 s hs w);generalize (eachL s).length=n at*
 go_enter Tryz.func21,Tryz.ntmps21
 go_wp2_with (simp only [hand]);refine HO.out.mono ?_;rintro e w1 ⟨rfl,rfl⟩;go_wp2_with fail;exact bR (v:=.int .i64 n) (by simp only [results,Tryz.results21];go_simp) rfl ⟨rfl,bE⟩
def encB1:Enc Nat 1:=⟨fun x=> [.int .u8 x],fun _=>rfl,by intro x u hu;simp at hu;subst hu;rfl⟩
section
variable {H:Type} {enc:TypeId×Value→H} {w:World} {base:Nat} {spare:Nat→Bool} {held:Bool}
theorem open_B1s {r:Reach} {b0:Nat} {v:Value} {d:DataW H} {p:List MemPlace}
 (hv:Value.okWide Tryz.prog w r b0 28 v) (h:DataW.Trod enc Tryz.prog w base spare held 28 v d p) :
 ∃(us:List Nat) (A:Option Addr) (cap:Nat),v=.slice A us.length cap∧Sl w w.heap.size encB1 A us∧(∀u∈us,u≤255)∧us.length≤maxLen:=by
 obtain⟨A,n,cap,rfl⟩:=okWide_slice Tryz.underlying28 hv;obtain⟨fuel,hf⟩:=h
 obtain⟨l,A',cap',hc,rest⟩:=slice_of_trod encB1 (fun u=>u≤255) Tryz.underlying28 (by kernel_rfl) (by decide) (fun fuel cs x h=>by
  obtain⟨k,e0,_,k0⟩:=DataW.trod_int Tryz.underlying5 h;simp only [Lit.wf,Bool.and_eq_true,decide_eq_true_eq] at k0;have hmn:IntKind.u8.min=0:=by decide
  have hmx:IntKind.u8.max=255:=by decide
  rw [hmn,hmx] at k0;obtain⟨n,rfl⟩:=Int.eq_ofNat_of_zero_le k0.1;exact⟨n,by rw [e0];rfl,by omega⟩) hf
 have hc':Value.slice A n cap=.slice A' l.length cap':=by simpa [Value.cells] using hc
 rw [hc'];exact⟨l,A',cap',rfl,rest⟩
end
structure WhB (w:World) (l pb:Nat) (M:List Nd) (Aq:Option Addr) (cq:Nat) (W:World) :Prop where
 xb:W.heap[pb]? =some (.cells #[.int .i64 l,.slice Aq M.length cq] 35 (0,0))
 gb:w.heap.size≤pb
 s:SlT W 165 encN Aq M
section
variable {w W W':World} {l pb:Nat} {M M2:List Nd} {Aq A2:Option Addr} {cq c2:Nat}
theorem WhB.k3 (h:WhB w l pb M Aq cq W) (hk:K3 W W') :WhB w l pb M Aq cq W':=⟨(hk pb _ (.of h.xb) (.inr (.inl rfl))).trans h.xb,h.gb,h.s.k3 hk (.inr (.inr (.inl rfl)))⟩
theorem WhB.below (h:WhB w l pb M Aq cq W) (hb:Below W.heap.size W W') :WhB w l pb M Aq cq W':=h.k3 (.below hb)
theorem WhB.set (h:WhB w l pb M Aq cq W) (hs:SlT W 165 encN A2 M2) :WhB w l pb M2 A2 c2 ((W.setCell ⟨pb,0,none⟩ (.int .i64 l)).setCell ⟨pb,1,none⟩ (.slice A2 M2.length c2)):=
 ⟨zH (i:=1) (zH (i:=0) h.xb _) _,h.gb,(hs.setCellT (t:=35) (.of h.xb) (by decide)).setCellT (t:=35) ((TypeAt.of h.xb).setCell) (by decide)⟩
theorem addB_ok {x c:Int} (h: (addB l M x c).2=0) :addB l M x c= (addR M x c,0):=by
 unfold addB at h⊢
 split at h
 ·exact absurd (show (3:Int) =0 from h) (by decide)
 ·rename_i h1
  split at h
  ·exact absurd (show (4:Int) =0 from h) (by decide)
  ·rename_i h2
   split at h
   ·exact absurd (show (5:Int) =0 from h) (by decide)
   ·rename_i h3
    rw [if_neg h1,if_neg h2,if_neg h3]
theorem EpW.store2 {L:EpL} {K:Nat} {k wt:Int} {q:Nat} {E:Int} {D:Nat→List Nd} {N:Nat→Int} {m:EpM} (h:EpW w L K k wt q E D N m W) (hY:WhB w l pb M Aq cq W) (u v:Value) :EpW w L K k wt q E D N m ((W.setCell ⟨pb,0,none⟩ u).setCell ⟨pb,1,none⟩ v):=
 (h.store (.of hY.xb) (.inr (.inl rfl)) hY.gb _ _).store (TypeAt.of hY.xb).setCell (.inr (.inl rfl)) hY.gb _ _
end
theorem law_EpochWhole (ps:List Int) (A:Option Addr) (cap:Nat) (l k K wt ep:Int) (os:List Stp) (A2:Option Addr) (c2:Nat) (us:List Nat) (A3:Option Addr) (c3:Nat) (y:Int) (w:World) (hS:Sl w w.heap.size encZ A ps) (hI: ∀x∈ps,i64 x) (hm:ps.length≤maxLen) (wl:i64 l) (wk:i64 k) (wK:i64 K) (ww:i64 wt) (we:i64 ep) (hS2:Sl w w.heap.size encSt A2 os) (hO: ∀x∈os,StpOk x) (hm2:os.length≤maxLen) (hS3:Sl w w.heap.size encB1 A3 us) (hU: ∀u∈us,u≤255) (hm3:us.length≤maxLen) (wy: (Lit.int IntKind.i64 y).wf=true) (hT:TabZ w) :
 Calls Tryz.prog 3 #[baseV A ps.length cap l k K wt ep,.slice A2 os.length c2,.slice A3 us.length c3,.int .i64 y] w fun e w'=>e=.returned (.bool true)∧Below w.heap.size w w':=by
 clear hI wl wk wK ww we wy;have HF:=LH (fun W=>law32_Few W A A2 ps.length cap os.length c2 l k K wt ep 60 hm hm2);have HAl:Hid (∀W,Below w.heap.size w W→Calls Tryz.prog 11 #[] W fun e w'=>e=.returned (.bool true)∧Below W.heap.size W w'):=LH fun W h=>law32_alive W (hT.below h);have b0:Below w.heap.size w (w.alloc (.cells #[.slice A ps.length cap,.int .i64 l,.int .i64 k,.int .i64 K,.int .i64 wt,.int .i64 ep] 26)):=bE;have k0:=LH (heap_alloc_new w (.cells #[.slice A ps.length cap,.int .i64 l,.int .i64 k,.int .i64 K,.int .i64 wt,.int .i64 ep] 26));have B0:=LH b0;have HLen:=LH crew_Len
 have HMade:Hid (∀W,Below w.heap.size w W→(noEp ps l k K wt ep∧Calls Tryz.prog 12 #[.agg #[.slice A ps.length cap,.int .i64 l,.int .i64 k,.int .i64 K,.int .i64 wt,.int .i64 ep]] W fun e w'=>e=.returned (.pointer none)∧Below W.heap.size W w')∨
  ∃l' K':Nat,Calls Tryz.prog 12 #[.agg #[.slice A ps.length cap,.int .i64 l,.int .i64 k,.int .i64 K,.int .i64 wt,.int .i64 ep]] W fun e w'=>∃L m,e=.returned (.pointer (some ⟨L.g,0,none⟩))∧L.ps=ps∧(L.l:Int) =l∧EpNw m∧EpW W L K' k wt 0 ep (fun _=> []) (fun _=>0) m w'):=LH fun W hb=>by
  rcases ep_eitherE ps l k K wt ep with h| ⟨hR,l',K',rfl,rfl,hN⟩
  ·exact .inl ⟨h,law32_made_no W A cap ps l k K wt ep (hS.keep hb.size fun p hp=>hb.cell hp) (hT.below hb) hm h⟩
  ·refine .inr ⟨l',K',(law32_made W A cap ps l' K' k wt ep (hS.keep hb.size fun p hp=>hb.cell hp) (hT.below hb) hR hN).mono ?_⟩
   rintro e W' ⟨L,rfl,h1,h2,h3,h4⟩;exact⟨L,_,rfl,h2,by rw [h3],EpNw.new,EpW.new h1 h2 h3 hR hN⟩
 have HS2:=LH hS2;have HO:=LH hO;have HS3:=LH hS3;have HU:=LH hU;have hm3':us.length≤9223372036854775807:=Nat.le_trans hm3 (by decide);unfold baseV at HF⊢;have hm2':os.length≤9223372036854775807:=Nat.le_trans hm2 (by decide);obtain⟨n,hnn⟩ : ∃n,n=ps.length:=⟨_,rfl⟩;have HNn:=LH hnn;rw [←hnn] at HF b0 k0 B0 HMade⊢;clear hS hm hS2 hO hm2 hS3 hU hm3 hT hnn b0;obtain⟨pc,hpc⟩ : ∃q,q=w.heap.size:=⟨_,rfl⟩
 go_enter Tryz.func3,Tryz.ntmps3
 go_upto_region 1 with fail;rw [←hpc] at k0⊢;clear hpc;generalize w.alloc (.cells #[.slice A n cap,.int .i64 l,.int .i64 k,.int .i64 K,.int .i64 wt,.int .i64 ep] 26) =W0 at k0 B0⊢;have cc:=bC k0.out;have zc:=lB k0.out
 cases hf:fewB n os.length 60 K l
 ·rw [hf] at HF
  go_wp2_with fail;refine(HF.out _).mono ?_;rintro e w1 ⟨rfl,hb1⟩;have B1:=LH (Below.then_ B0.out hb1);clear hb1;go_wp2_with fail;refine(HAl.out _ B1.out).mono ?_;rintro e w2 ⟨rfl,hb2⟩;have B2:=LH (Below.then_ B1.out hb2);clear hb2;go_wp2_with fail;exact bR (v:=.bool true) (by simp only [results,Tryz.results3];go_simp) rfl ⟨rfl,B2.out⟩
 ·rw [hf] at HF
  have hfew:n≤12∧os.length≤60:=by
   unfold fewB at hf;simp only [Bool.and_eq_true,decide_eq_true_eq] at hf;omega
  have HFe:=LH hfew;clear hf hfew;go_wp2_with fail;refine(HF.out _).mono ?_;rintro e w1 ⟨rfl,hb1⟩;have B1:=LH (Below.then_ B0.out hb1);have K1:=LH (bB k0.out hb1);clear hb1 cc zc;have cc:=bC K1.out;have zc:=lB K1.out;rcases HMade.out _ B1.out with ⟨_,hM⟩ | ⟨l',K',hM⟩
  ·go_wp2_with fail
   refine hM.mono ?_;rintro e w2 ⟨rfl,hb2⟩;have B2:=LH (Below.then_ B1.out hb2);clear hb2 hM;go_wp2_with fail;refine(HAl.out _ B2.out).mono ?_;rintro e w3 ⟨rfl,hb3⟩;have B3:=LH (Below.then_ B2.out hb3);clear hb3;go_wp2_with fail;exact bR (v:=.bool true) (by simp only [results,Tryz.results3];go_simp) rfl ⟨rfl,B3.out⟩
  ·go_wp2_with fail
   refine hM.mono ?_;rintro e w2 ⟨L,m0,rfl,hLps,hLl,hnw,hW⟩;have HW2:=LH hW;have HNw:=LH hnw;have HLn:Hid (L.ps.length=n):=LH (by rw [hLps,HNn.out]);have HLl:=LH hLl;have K2:=LH ((hW.s.blw.block pc (lB K1.out)).trans K1.out);have HLenW:=HLen;have hln:=rightG_len hW.j.tree;have HL48:=LH (show L.ps.length≤48 by omega);have HRt:=LH hW.j.tree;have HK1:=LH hW.j.k1;have HL1:=LH hW.j.l1;clear hM hW cc zc hLps hLl hnw hln;have cc:=bC K2.out;have zc:=lB K2.out;go_upto_region 7 with fail;rw [←HLl.out];have al:=(Below.refl w2.heap.size w2).alloc (Nat.le_refl _) (.cells #[.int .i64 L.l,.slice none 0 0] 35);have Y3:Hid (WhB w1 L.l w2.heap.size [] none 0 (w2.alloc (.cells #[.int .i64 L.l,.slice none 0 0] 35))):=LH ⟨heap_alloc_new _ _,HW2.out.s.blw.size,.nil⟩;have W3:=LH (HW2.out.below al);obtain⟨pb,hpb⟩ : ∃p,p=w2.heap.size:=⟨_,rfl⟩;rw [←hpb] at Y3⊢;clear hpb al cc zc HW2;generalize w2.alloc (.cells #[.int .i64 L.l,.slice none 0 0] 35) =w3 at Y3 W3⊢;go_wp2_with fail
   go_loopw [38] (fun i wr=>∃(q:Nat) (D:Nat→List Nd) (N:Nat→Int) (m:EpM) (M:List Nd) (Aq:Option Addr) (cq:Nat),i=.int .i64 q∧q≤os.length∧EpW w1 L K' k wt q ep D N m wr∧EpNw m∧WhB w1 L.l pb M Aq cq wr∧AllB L.l L.ps.length D M∧M.length≤q) (fun i _=>os.length - (intOf i).toNat)
   case atStart=>exact⟨0,_,_,_, [],none,0,rfl,Nat.zero_le _,W3.out,HNw.out,Y3.out,.nil,Nat.le_refl _⟩
   case round=>
    obtain⟨q,D,N,m,M,Aq,cq,rfl,hq,hE,hnw,hY,hA,hM⟩:=hrel;have KE:=LH hE;have KN:=LH hnw;have KY:=LH hY;have KA:=LH hA;have KM:=LH hM;have hBr:=Below.then_ B1.out hE.s.blw;have BR:=LH hBr;clear hE hnw hY hA hM;by_cases hlt:q<os.length
    ·obtain⟨b,off,rfl,hbb,hcl⟩:=HS2.out.at_ hlt
     have ho:=HO.out _ (List.getElem_mem hlt);obtain⟨o,hoe⟩ : ∃o,o=os[q]:=⟨_,rfl⟩;rw [←hoe] at hcl ho;have d0:=(hBr.cell (p:=⟨b,off+q*6+0,none⟩) hbb).trans (hcl 0 (.int .i64 o.kd) rfl);have d1:=(hBr.cell (p:=⟨b,off+q*6+1,none⟩) hbb).trans (hcl 1 (.int .i64 o.i) rfl);have d2:=(hBr.cell (p:=⟨b,off+q*6+2,none⟩) hbb).trans (hcl 2 (.int .i64 o.x) rfl);have d3:=(hBr.cell (p:=⟨b,off+q*6+3,none⟩) hbb).trans (hcl 3 (.int .i64 o.w) rfl);have d4:=(hBr.cell (p:=⟨b,off+q*6+4,none⟩) hbb).trans (hcl 4 (.int .i64 o.at_) rfl);have d5:=(hBr.cell (p:=⟨b,off+q*6+5,none⟩) hbb).trans (hcl 5 (.int .u8 o.by_) rfl);simp only [Nat.add_zero] at d0;have zb:b<wr.heap.size:=by have:=hBr.size;omega
     have al:=(Below.refl wr.heap.size wr).alloc (Nat.le_refl _) (.cells #[.int .i64 o.kd,.int .i64 o.i,.int .i64 o.x,.int .i64 o.w,.int .i64 o.at_,.int .u8 o.by_] 37);have Z5:=LH (heap_alloc_new wr (.cells #[.int .i64 o.kd,.int .i64 o.i,.int .i64 o.x,.int .i64 o.w,.int .i64 o.at_,.int .u8 o.by_] 37));have E5:=LH (KE.out.below al);have Y5:=LH (KY.out.below al);have HW9:Hid (o.w≤9223372036854775807):=LH (by have:=ho.1.2.2.2.1;unfold i64 at this;omega);clear hcl hoe hBr al KE KY ho;go_upto_region 10 with fail;clear d0 d1 d2 d3 d4 d5 zb;obtain⟨po,hpo⟩ : ∃p,p=wr.heap.size:=⟨_,rfl⟩;rw [←hpo] at Z5⊢;clear hpo;generalize wr.alloc (.cells #[.int .i64 o.kd,.int .i64 o.i,.int .i64 o.x,.int .i64 o.w,.int .i64 o.at_,.int .u8 o.by_] 37) =w5 at Z5 E5 Y5⊢;have HPu:=LH (E5.out.putQ (by have:=HFe.out;omega) o.i o.x o.w);have co:=bC Z5.out;have zo:=lB Z5.out;go_wp2_with fail;refine HPu.out.mono ?_;clear HPu co zo;rintro e w6 ⟨er,m',rfl,hs,hW,hk3⟩;have Y6:=LH (Y5.out.k3 hk3);have Z6:=LH ((hk3 po _ (.of Z5.out) (.inr (.inr (.inr rfl)))).trans Z5.out);have N6:=LH (KN.out.put rfl hs);by_cases her:er=0
     ·subst her
      obtain⟨i,x0,r0,hoi,hin,hx0,hp0,he0⟩:=hs.put_ok rfl E5.out.j.len;have hDg:gD ⟨0,o.i,o.x,o.w,0,0⟩ 0 D=upd D i (addR (D i) o.x o.w):=by unfold gD;rw [if_pos ⟨rfl,rfl⟩];dsimp only at hoi⊢;rw [hoi,Int.toNat_natCast]
      rw [hDg] at hW;have E6:=LH hW;have HDi:=LH (E5.out.j.D_ i);have HIn:=LH hin;have HAdd:=LH (fun W1 (h1:SlT W1 165 encN Aq M)=>ref10_Add W1 L.l Aq cq M o.x o.w HL1.out h1 KA.out.b (by have:=KM.out;have:=HFe.out;omega) HW9.out);unfold bagV at HAdd;have SA:=LH Y6.out.s;have HAl2:=LH (addR_len M o.x o.w);clear hW hk3 hs hoi hin hx0 hp0 he0 hDg E5 Y5 Z5;obtain⟨R,hR⟩ : ∃R,R=addB L.l M o.x o.w:=⟨_,rfl⟩;rw [←hR] at HAdd;have HAk:Hid (R.2=0→addB L.l M o.x o.w= (addR M o.x o.w,0)∧R.1=addR M o.x o.w):=LH (by rw [hR];intro h;exact⟨addB_ok h,congrArg Prod.fst (addB_ok h)⟩);have cb:=bC Y6.out.xb;have fb:=bF Y6.out.xb;have zb:=lB Y6.out.xb;have co:=bC Z6.out;have zo:=lB Z6.out;clear hR;go_upto_region 11 with fail;clear cb fb zb co zo;have cb:=bC Y6.out.xb;have zb:=lB Y6.out.xb;have co:=bC Z6.out;have zo:=lB Z6.out;go_wp2_with fail;refine(HAdd.out _ SA.out).mono ?_;rintro e w7 ⟨A4,c4,rfl,hS4,hb7⟩;have E7:=LH (E6.out.below hb7);have Y7:=LH (Y6.out.below hb7);have S7:=LH hS4;clear cb zb co zo E6 Y6 Z6 HAdd SA hS4 hb7;obtain⟨M2,e2⟩:=R;dsimp only at HAk S7⊢;have B7:=LH (Below.then_ B1.out E7.out.s.blw);by_cases he2:e2=0
      ·subst he2
       have hM2:M2=addR M o.x o.w:=(HAk.out rfl).2;have HA8:Hid (AllB L.l L.ps.length (upd D i (addR (D i) o.x o.w)) M2):=LH (by rw [hM2];exact KA.out.put HL48.out HIn.out HDi.out (HAk.out rfl).1);have HM8:Hid (M2.length≤q+1):=LH (by rw [hM2];have:=HAl2.out;have:=KM.out;omega);clear hM2;have al:=(Below.refl w7.heap.size w7).alloc (Nat.le_refl _) (.cells #[.int .i64 L.l,.slice A4 M2.length c4] 35);have Z8:=LH (heap_alloc_new w7 (.cells #[.int .i64 L.l,.slice A4 M2.length c4] 35));have E8:=LH (E7.out.below al);have Y8:=LH (Y7.out.below al);have S8:=LH (S7.out.below al);clear al E7 Y7 S7;go_upto_region 13 with fail;obtain⟨pn,hpn⟩ : ∃p,p=w7.heap.size:=⟨_,rfl⟩;rw [←hpn] at Z8⊢;clear hpn;generalize w7.alloc (.cells #[.int .i64 L.l,.slice A4 M2.length c4] 35) =w8 at Z8 E8 Y8 S8⊢;have E9:=LH (E8.out.store2 Y8.out (.int .i64 L.l) (.slice A4 M2.length c4));have Y9:=LH (Y8.out.set (c2:=c4) S8.out);have cn:=bC Z8.out;have zn:=lB Z8.out;have cb:=bC Y8.out.xb;have fb:=bF Y8.out.xb;have zb:=lB Y8.out.xb;clear Z8 E8 Y8 S8;go_upto_region 15 with fail;generalize (w8.setCell ⟨pb,0,none⟩ (.int .i64 L.l)).setCell ⟨pb,1,none⟩ (.slice A4 M2.length c4) =w9 at E9 Y9⊢;clear cn zn cb fb zb;go_wp2_with fail;go_roundw
       case rel=>exact⟨q+1,_,_,m',M2,A4,c4,by go_num,hlt,E9.out,N6.out,Y9.out,HA8.out,HM8.out⟩
       case measure=>simp [intOf];omega
      ·have hen: (e2 == 0) =false:=by simpa using he2
       clear he2;go_wp2_with fail;refine(HAl.out _ (Below.then_ B7.out ((Below.refl w7.heap.size w7).alloc (Nat.le_refl _) (.cells #[.int .i64 L.l,.slice A4 M2.length c4] 35)))).mono ?_;rintro e w8 ⟨rfl,hb8⟩;have B8:=LH (Below.then_ (Below.then_ B7.out ((Below.refl w7.heap.size w7).alloc (Nat.le_refl _) (.cells #[.int .i64 L.l,.slice A4 M2.length c4] 35))) hb8);clear hb8;go_wp2_with fail;exact bR (v:=.bool true) (by simp only [results,Tryz.results3];go_simp) rfl ⟨rfl,B8.out⟩
     ·obtain⟨e1,e2,e3⟩:=g_same (o:=⟨0,o.i,o.x,o.w,0,0⟩) (e:=er) (fun h=>her h.2) (fun h=>absurd h.1 (by simp)) D N ep
      rw [e1,e2] at hW;have E6:=LH hW;have ge: (er == 0) =false:=by simpa using her
      clear hW hk3 hs e1 e2 e3 her E5 Y5 Z5;go_wp2_with fail;go_roundw
      case rel=>exact⟨q+1,D,N,m',M,Aq,cq,by go_num,hlt,E6.out,N6.out,Y6.out,KA.out,Nat.le_succ_of_le KM.out⟩
      case measure=>simp [intOf];omega
    ·obtain rfl:q=os.length:=by omega
     have HSt:Hid (Calls Tryz.prog 15 #[.pointer (some ⟨L.g,0,none⟩)] wr fun e W'=>e=.returned (.int .i64 0)∧∃m',EpW w1 L K' k wt (os.length+1) ep D N m' W'∧K3 wr W'∧EpWh L.ps ep L.ps.length m'∧Still m'∧m'.st=true):=LH (by
      refine(KE.out.startQ (by have:=HFe.out;omega)).mono ?_;rintro e W' ⟨er,m',rfl,hs,h',hk⟩;obtain⟨rfl,g1,g2,g3⟩:=KN.out.start KE.out.j rfl hs;exact⟨rfl,m',h',hk,g1,g2,g3⟩)
     clear hBr;go_wp2_with fail;refine HSt.out.mono ?_;rintro e w4 ⟨rfl,m1,hW4,hk3,g1,g2,g3⟩;have W4:=LH hW4;have G4:=LH (And.intro g1 (And.intro g2 g3));have Y4:=LH (KY.out.k3 hk3);have HTt:=LH KA.out.sum;clear hW4 hk3 g1 g2 g3 HSt KE KN KY BR;go_wp2_with fail
     go_loopw [15] (fun i wr=>∃(t c:Nat) (m:EpM),i=.int .i64 t∧t≤53∧c+t≤n+min t 40∧EpW w1 L K' k wt (os.length+1+2*t) ep D N m wr∧EpWh L.ps ep c m∧Still m∧m.st=true∧WhB w1 L.l pb M Aq cq wr) (fun i _=>60 - (intOf i).toNat)
     case atStart=>exact⟨0,L.ps.length,m1,rfl,by omega,by rw [HLn.out];omega,W4.out,G4.out.1,G4.out.2.1,G4.out.2.2,Y4.out⟩
     case round=>
      obtain⟨t,c,m2,rfl,ht53,hct,hE2,hwh,hst,hm2,hY2⟩:=hrel;have KE:=LH hE2;have KW:=LH hwh;have KS:=LH (And.intro hst hm2);have KY:=LH hY2;have HC:=LH hct;have HFl:=LH (fun W hb=>(hE2.s.below (W':=W) hb).flight);have hf256:=hE2.v.its;obtain⟨f,hf⟩ : ∃f,f=m2.wv.items.length:=⟨_,rfl⟩;have hfc:f≤c:=by have:=hwh.n;omega
      rw [←hf] at HFl hf256;have HFq:=LH hf;clear hE2 hwh hst hm2 hY2 hf;by_cases hf0:0<f
      ·have ht52:t<52:=by have:=HFe.out;omega
       have d1:decide ((0:Int) < (f:Int)) =true:=by simpa using hf0
       have d2:decide ((200:Int) < (t:Int)) =false:=by simp;omega
       have hN:Hid (f≠0):=LH (by omega);obtain⟨c',hc'⟩ : ∃c',c=c'+1:=⟨c - 1,by omega⟩;subst hc';have HH:=LH (And.intro ht52 (And.intro hf256 hfc));clear hct hfc hf256 ht53;go_wp2_with fail;refine(HFl.out _ (Below.refl _ _)).mono ?_;rintro e w5 ⟨rfl,hb5⟩;have B5:=LH hb5;clear hb5;by_cases hu:t<us.length
       ·obtain⟨b,off,rfl,hbb,hcl⟩:=HS3.out.at_ hu
        have huu:=HU.out _ (List.getElem_mem hu);obtain⟨pk,hpk⟩ : ∃pk,pk=us[t]:=⟨_,rfl⟩;rw [←hpk] at hcl huu;have hBr:=Below.then_ (Below.then_ B1.out KE.out.s.blw) B5.out;have d0:=(hBr.cell (p:=⟨b,off+t*1+0,none⟩) hbb).trans (hcl 0 (.int .u8 pk) rfl);simp only [Nat.add_zero,Nat.mul_one] at d0;have zb:b<w5.heap.size:=by have:=hBr.size;omega
        have hdu:decide ((t:Int) < (us.length:Int)) =true:=by simpa using hu
        have hcv:wrap64 (pk:Int) = (pk:Int):=by unfold wrap64;omega
        clear hcl hpk hBr;have hmf:=Nat.mod_lt pk hf0;have HAt0:=LH hmf;clear hmf;go_upto_region 26 with fail;clear d0 zb;go_wp2_with fail;refine(HFl.out _ B5.out).mono ?_;rintro e w6 ⟨rfl,hb6⟩;have E6:=LH (KE.out.below (Below.then_ B5.out hb6));have Y6:=LH (KY.out.below (Below.then_ B5.out hb6));clear hb6 B5 HFl KE KY;go_upto_region 27 with fail;obtain⟨at_,hat⟩ : ∃a:Nat,a=pk % f:=⟨_,rfl⟩;have HAt:Hid (at_<f):=LH (by rw [hat];exact HAt0.out);have hati: ((pk:Int) % (f:Int)) = (at_:Int):=by rw [hat];push_cast;rfl
        rw [hati];clear hat hati HAt0;by_cases hk1:128≤pk
        ·have k1:decide ((128:Int)≤(pk:Int)) =true:=by simp;omega
         by_cases hk2:t<40
         ·have k2:decide ((t:Int) < (40:Int)) =true:=by simp;omega
          have HT40:=LH hk2;clear hk1 hk2
          have HCp:Hid (Calls Tryz.prog 17 #[.pointer (some ⟨L.g,0,none⟩),.int .i64 at_] w6 fun e W'=>∃er,e=.returned (.int .i64 er)∧∃m',EpW w1 L K' k wt (os.length+1+2*t+1) ep D N m' W'∧K3 w6 W'∧EpWh L.ps ep (c'+1+1) m'∧Still m'∧m'.st=true∧at_<m'.wv.items.length):=LH (by
           refine(E6.out.copyQ (by have:=HFe.out;have:=HH.out.1;omega) at_).mono ?_;rintro e W' ⟨er,m',rfl,hs,h',hk⟩;obtain⟨q1,q2,q3,q4⟩:=KW.out.copy KS.out.2 rfl hs;exact⟨er,rfl,m',h',hk,q1,q2 KS.out.1,q3,Nat.lt_of_lt_of_le (by rw [←HFq.out];exact HAt.out) q4⟩)
          go_wp2_with fail;refine HCp.out.mono ?_;rintro e w7 ⟨er0,rfl,m3,hW,hk3,q1,q2,q3,q4⟩;have E7:=LH hW;have Q7:=LH (And.intro q1 (And.intro q2 (And.intro q3 q4)));have Y7:=LH (Y6.out.k3 hk3);clear hW hk3 q1 q2 q3 q4 HCp E6 Y6
          have HDl:Hid (Calls Tryz.prog 18 #[.pointer (some ⟨L.g,0,none⟩),.int .i64 at_] w7 fun e W'=>∃er,e=.returned (.int .i64 er)∧(er=0∨er=18∨er=19)∧∃m',EpW w1 L K' k wt (os.length+1+2* (t+1)) ep D N m' W'∧K3 w7 W'∧EpWh L.ps ep (c'+1) m'∧Still m'∧m'.st=true):=LH (by
           refine(E7.out.deliverQ (by have:=HFe.out;have:=HH.out.1;omega) at_).mono ?_;rintro e W' ⟨er,m',rfl,hs,h',hk⟩;obtain⟨q1,q2,q3,q4⟩:=Q7.out.1.take E7.out.j (by have:=HFe.out;have:=HC.out;omega) HTt.out Q7.out.2.2.1 (q:=at_) Q7.out.2.2.2 rfl rfl hs;exact⟨er,rfl,q1,m',h'.more (by omega),hk,q2,q3,q4⟩)
          go_wp2_with fail;refine HDl.out.mono ?_;rintro e v1 ⟨er,rfl,her,m4,hW,hk3,q2,q3,q4⟩;have X1:=LH hW;have Q1:=LH (And.intro q2 (And.intro q3 q4));have V1:=LH (Y7.out.k3 hk3);clear hW hk3 q2 q3 q4 HDl;rcases her with rfl|rfl|rfl
          all_goals
           go_wp2_with fail;go_roundw
           case rel=>exact⟨t+1,(c'+1),m4,by go_num,by have:=HH.out.1;omega,by have:=HC.out;have:=HT40.out;omega,X1.out,Q1.out.1,Q1.out.2.1,Q1.out.2.2,V1.out⟩
           case measure=>have:=HH.out.1;simp [intOf];omega
         ·have k2:decide ((t:Int) < (40:Int)) =false:=by simp;omega
          clear hk1 hk2
          have HDl:Hid (Calls Tryz.prog 18 #[.pointer (some ⟨L.g,0,none⟩),.int .i64 at_] w6 fun e W'=>∃er,e=.returned (.int .i64 er)∧(er=0∨er=18∨er=19)∧∃m',EpW w1 L K' k wt (os.length+1+2* (t+1)) ep D N m' W'∧K3 w6 W'∧EpWh L.ps ep c' m'∧Still m'∧m'.st=true):=LH (by
           refine(E6.out.deliverQ (by have:=HFe.out;have:=HH.out.1;omega) at_).mono ?_;rintro e W' ⟨er,m',rfl,hs,h',hk⟩;obtain⟨q1,q2,q3,q4⟩:=KW.out.take E6.out.j (by have:=HFe.out;have:=HC.out;omega) HTt.out KS.out.2 (q:=at_) (by rw [←HFq.out];exact HAt.out) rfl rfl hs;exact⟨er,rfl,q1,m',h'.more (by omega),hk,q2,q3,q4⟩)
          go_wp2_with fail;refine HDl.out.mono ?_;rintro e v1 ⟨er,rfl,her,m4,hW,hk3,q2,q3,q4⟩;have X1:=LH hW;have Q1:=LH (And.intro q2 (And.intro q3 q4));have V1:=LH (Y6.out.k3 hk3);clear hW hk3 q2 q3 q4 HDl;rcases her with rfl|rfl|rfl
          all_goals
           go_wp2_with fail;go_roundw
           case rel=>exact⟨t+1,c',m4,by go_num,by have:=HH.out.1;omega,by have:=HC.out;omega,X1.out,Q1.out.1,Q1.out.2.1,Q1.out.2.2,V1.out⟩
           case measure=>have:=HH.out.1;simp [intOf];omega
        ·have k1:decide ((128:Int)≤(pk:Int)) =false:=by simp;omega
         clear hk1
         have HDl:Hid (Calls Tryz.prog 18 #[.pointer (some ⟨L.g,0,none⟩),.int .i64 at_] w6 fun e W'=>∃er,e=.returned (.int .i64 er)∧(er=0∨er=18∨er=19)∧∃m',EpW w1 L K' k wt (os.length+1+2* (t+1)) ep D N m' W'∧K3 w6 W'∧EpWh L.ps ep c' m'∧Still m'∧m'.st=true):=LH (by
          refine(E6.out.deliverQ (by have:=HFe.out;have:=HH.out.1;omega) at_).mono ?_;rintro e W' ⟨er,m',rfl,hs,h',hk⟩;obtain⟨q1,q2,q3,q4⟩:=KW.out.take E6.out.j (by have:=HFe.out;have:=HC.out;omega) HTt.out KS.out.2 (q:=at_) (by rw [←HFq.out];exact HAt.out) rfl rfl hs;exact⟨er,rfl,q1,m',h'.more (by omega),hk,q2,q3,q4⟩)
         go_wp2_with fail;refine HDl.out.mono ?_;rintro e v1 ⟨er,rfl,her,m4,hW,hk3,q2,q3,q4⟩;have X1:=LH hW;have Q1:=LH (And.intro q2 (And.intro q3 q4));have V1:=LH (Y6.out.k3 hk3);clear hW hk3 q2 q3 q4 HDl;rcases her with rfl|rfl|rfl
         all_goals
          go_wp2_with fail;go_roundw
          case rel=>exact⟨t+1,c',m4,by go_num,by have:=HH.out.1;omega,by have:=HC.out;omega,X1.out,Q1.out.1,Q1.out.2.1,Q1.out.2.2,V1.out⟩
          case measure=>have:=HH.out.1;simp [intOf];omega
       ·have hdu:decide ((t:Int) < (us.length:Int)) =false:=by simpa using hu
        have HAt:=LH hf0;go_upto_region 26 with fail;go_wp2_with fail;refine(HFl.out _ B5.out).mono ?_;rintro e w6 ⟨rfl,hb6⟩;have E6:=LH (KE.out.below (Below.then_ B5.out hb6));have Y6:=LH (KY.out.below (Below.then_ B5.out hb6));clear hb6 B5 HFl KE KY;go_upto_region 27 with fail;have k1:decide ((128:Int)≤(0:Int)) =false:=by decide
        have HDl:Hid (Calls Tryz.prog 18 #[.pointer (some ⟨L.g,0,none⟩),.int .i64 0] w6 fun e W'=>∃er,e=.returned (.int .i64 er)∧(er=0∨er=18∨er=19)∧∃m',EpW w1 L K' k wt (os.length+1+2* (t+1)) ep D N m' W'∧K3 w6 W'∧EpWh L.ps ep c' m'∧Still m'∧m'.st=true):=LH (by
         refine(E6.out.deliverQ (by have:=HFe.out;have:=HH.out.1;omega) 0).mono ?_;rintro e W' ⟨er,m',rfl,hs,h',hk⟩;obtain⟨q1,q2,q3,q4⟩:=KW.out.take E6.out.j (by have:=HFe.out;have:=HC.out;omega) HTt.out KS.out.2 (q:=0) (by rw [←HFq.out];exact HAt.out) rfl rfl hs;exact⟨er,rfl,q1,m',h'.more (by omega),hk,q2,q3,q4⟩)
        go_wp2_with fail;refine HDl.out.mono ?_;rintro e v1 ⟨er,rfl,her,m4,hW,hk3,q2,q3,q4⟩;have X1:=LH hW;have Q1:=LH (And.intro q2 (And.intro q3 q4));have V1:=LH (Y6.out.k3 hk3);clear hW hk3 q2 q3 q4 HDl;rcases her with rfl|rfl|rfl
        all_goals
         go_wp2_with fail;go_roundw
         case rel=>exact⟨t+1,c',m4,by go_num,by have:=HH.out.1;omega,by have:=HC.out;omega,X1.out,Q1.out.1,Q1.out.2.1,Q1.out.2.2,V1.out⟩
         case measure=>have:=HH.out.1;simp [intOf];omega
      ·obtain rfl:f=0:=by omega
       have d1:decide ((0:Int) < ((0:Nat) :Int)) =false:=by decide
       have hit:m2.wv.items= []:=List.eq_nil_of_length_eq_zero HFq.out.symm;obtain⟨x,hx⟩:=KE.out.j.root;obtain⟨hen,hcov⟩:=KW.out.fin KE.out.j KS.out.1 hit hx;have hj:=KE.out.j.s _ _ hx;have hheld:=KA.out.held hj.cov hcov;obtain⟨c1,c2',c3'⟩:=KE.out.j.coverLen (by rw [HLn.out];exact HFe.out.1) hx;have hal:=eachL_all HL48.out hcov;rw [HLn.out] at hal;have hrl:=(KE.out.j.sr hx).len;have HRs:=LH (fun W hb=>(KE.out.s.below (W':=W) hb).result HRt.out hen hx)
       have HEn:Hid (∀W,Below wr.heap.size wr W→Calls Tryz.prog 20 #[.pointer (some ⟨L.g,0,none⟩)] W fun e W'=>e=.returned (.bool true)∧Below W.heap.size W W'):=LH fun W hb=>by
        have:=(KE.out.s.below hb).ended
        rwa [hen] at this
       have HLe:Hid (∀W,Calls Tryz.prog 21 #[.int .u64 x.1.cover] W fun e W'=>e=.returned (.int .i64 n)∧Below W.heap.size W W'):=LH fun W=>by
        have:=HLenW.out _ c1 W
        rwa [hal] at this
       unfold ResPost at HRs;rw [hj.k_] at HRs;have HSt:=LH (fun W1 g' F' (hd:DigAt W1 g' L.K L.l k x.2 F') (hs:Sl W1 W1.heap.size encN Aq M)=>law32_stands W1 g' L.K L.l k x.2 M F' Aq cq y hd hheld HL1.out HK1.out.1 hs (by omega));unfold bagV at HSt;have K5:=LH ((KE.out.s.blw.block pc (lB K1.out)).trans K1.out);have B5:=LH (Below.then_ B1.out KE.out.s.blw);generalize x.1.cover=cv at HLe HRs;generalize x.2=rr at HRs HSt;clear hct hfc hf256 ht53 hf0 hit hx hen hcov hj hheld c1 c2' c3' hal hrl KE KW KS;go_wp2_with fail;refine(HFl.out _ (Below.refl _ _)).mono ?_;rintro e w4 ⟨rfl,hb4⟩;have H4:=LH hb4;clear hb4;go_wp2_with fail;refine(HRs.out _ H4.out).mono ?_;rintro e w5 ⟨g',F',rfl,hd,_,hb5⟩;have H5:=LH (Below.then_ H4.out hb5);have D6:=LH hd;have K6:=LH (bB K5.out H5.out);have B6:=LH (Below.then_ B5.out H5.out);have Y6:=LH (KY.out.below H5.out);clear hb5 hd HRs K5 B5 H4 KY;have HSn:=LH (fun W hb=>HSt.out W g' F' (D6.out.below hb) (Y6.out.s.below hb).sl);have cc:=bC K6.out;have zc:=lB K6.out;have cb:=bC Y6.out.xb;have zb:=lB Y6.out.xb;clear HSt;go_upto_region 33 with fail;refine rX (by kernel_rfl) (by kernel_rfl) ?_
       repeat (go_big_quiet_step (first
        | (go_at_call 20;exact quiet_ext (HEn.out _ (H5.out.trans ((ext_below _ _).mono H5.out.size))))
        | (go_at_call 21;exact quiet_ext (HLe.out _))
        | (go_at_call 22;exact quiet_ext (HSn.out _ (ext_below _ _)))
        | (go_at_call 11;exact quiet_ext (HAl.out _ (Below.extW B6.out _)))))
       refine wpQuiet_nil ?_;intro w7 hb7;have B7:=LH (Below.then_ B6.out (bX hb7));clear hb7;go_wp2_with fail;exact bR (v:=.bool true) (by simp only [results,Tryz.results3];go_simp) rfl ⟨rfl,B7.out⟩
end Go.Proofs.YtmdidmclfbfmiaaGreatDoor
