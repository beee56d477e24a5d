/-
  Texts of this proof, one behind the other: Probe2, Probe3, Pool, Pool2, Each, Light, Tail, Digest, Rank, Ref02, RefLoad, Open.
-/
import Derived.BigRegion
import Derived.RangeFuncNested
import Derived.RangeFuncBound
import Derived.RangeFuncCalls
import Derived.RangeFuncLeaves
import Derived.RangeFuncWrites
import Derived.Shelf.Abstract
import Derived.Shelf.RegionOpen
import Derived.OwnWalkIn
import Derived.TacticsInMore
import Derived.LoopNIn
import Derived.LoopIn
import Derived.StillTail
import Derived.Test.YtandlhihcnadmaaGreatR1
set_option linter.unusedVariables false
set_option linter.unusedSimpArgs false
set_option maxRecDepth 100000
set_option maxHeartbeats 16000000
namespace Go.Proofs.YtandlhihcnadmaaGreat
open Go.ChangeShapes Go.WideShapes Go.ChangeAt Go.RowKit
theorem take_filter_succ {S:List Nd} {k:Nat} (hk:k<S.length) (x:Nd) (hx:S[k]? =some x) : (S.take (k+1)).filter full= (S.take k).filter full ++ if x.2=0 then [] else [x]:=by
 rw [List.getElem?_eq_getElem hk] at hx
 injection hx with hx
 rw [List.take_succ_eq_append_getElem hk,List.filter_append,hx]
 congr 1
 rw [List.filter_cons];by_cases h:x.2=0
 ·simp [full,h]
 ·simp [full,h]
theorem PInv.put_next {b b':Nat} {S S' m:List Nd} {k i d:Nat} {x:Nd} (h:PInv b S m) (h':PInv b' S' ((S.take k).filter full)) (hk:k<S.length) (hx:S[k]? =some x) (h0:x.2≠0) (hl:LookAt S' b' x.1 i d) :
 PInv b' (S'.set i x) ((S.take (k+1)).filter full):=by
 have h1: ∀y∈(S.take k).filter full,y.1≠x.1:=by
  intro y hy he;obtain⟨hy,hf⟩:=List.mem_filter.1 hy;obtain⟨j,hj⟩:=List.getElem?_of_mem hy;rw [List.getElem?_take] at hj
  split at hj
  ·rename_i hlt
   have:=h.one hj hx (by simpa [full] using hf) h0 he;omega
  ·cases hj
 have h2:1≤x.2:=h.pos x (h.mem hx h0);have h3:=h'.put hl h1 h2;rw [take_filter_succ hk x hx,if_neg h0];exact h3.perm' (List.perm_append_comm (l₁:= [x]))
theorem PInv.nonneg {b:Nat} {S m:List Nd} (h:PInv b S m) {i:Nat} {x:Nd} (hx:S[i]? =some x) :0≤x.2:=by
 by_cases h0:x.2=0
 ·omega
 ·have:=h.pos x (h.mem hx h0);omega
theorem set_set {S:List Nd} {i:Nat} (x y:Nd) : (S.set i y).set i x=S.set i x:=by simp
theorem own_slot {w:World} {base b off n cap:Nat} {S:List Nd} (h:Own w base 154 encN (.slice (some ⟨b,off,none⟩) n cap) S) (i:Nat) (hi:i<S.length) (x:Nd) :
 Own ((w.setCell ⟨b,off+i*2,none⟩ (.int .i64 x.1)).setCell ⟨b,off+i*2+1,none⟩ (.int .i64 x.2)) base 154 encN (.slice (some ⟨b,off,none⟩) n cap) (S.set i x):=by
 have h1:=h.setElem i 0 hi (by decide) (.int .i64 x.1) (x.1,S[i].2) rfl;have h2:=h1.setElem i 1 (by simpa using hi) (by decide) (.int .i64 x.2) x (by simp [encN]);rw [set_set] at h2;exact h2
def WidenPost (g b:Nat) (v0 v2 v3:Value) (m:List Nd) (w:World) (e:Ending) (w':World) :Prop:=
 ∃(sb off cap:Nat) (S':List Nd),e=.returned (.tuple #[])∧w'.heap[g]? =some (.cells #[v0,.int .i64 (b+1:Nat),v2,v3,.slice (some ⟨sb,off,none⟩) S'.length cap] 225 (0,0))∧w.heap.size≤sb∧
  Own w' 0 154 encN (.slice (some ⟨sb,off,none⟩) S'.length cap) S'∧PInv (b+1) S' m∧Turn (fun x=>x=g) w w'
theorem probe_widen (w:World) (g b sb off cap:Nat) (v0 v2 v3:Value) (S m:List Nd) (hh:w.heap[g]? =some (.cells #[v0,.int .i64 b,v2,v3,.slice (some ⟨sb,off,none⟩) S.length cap] 225 (0,0)))
 (ho:Own w 0 154 encN (.slice (some ⟨sb,off,none⟩) S.length cap) S) (hI:PInv b S m) (h3:3≤b) (h34:b≤34) (hid: ∀x∈m,1≤x.1∧x.1≤562949953421312) :
 Calls Tryz.prog 205 #[.pointer (some ⟨g,0,none⟩)] w (WidenPost g b v0 v2 v3 m w):=by
 obtain⟨i0,hi,hz0,hz1,hz2⟩:=info_parts infoN;have q1: (3:Int)≤(b:Int):=by omega
 have q2: (b:Int)≤34:=by omega
 have q3: (2:Int) ^ (b+1)≤34359738368:=by have:=pow_le' (show b+1≤35 by omega);simpa using this
 have q4:=pow_pos' (b+1);have q5:2^ (b+1)≤34359738368:=by have:=Nat.pow_le_pow_right (n:=2) (by decide) (show b+1≤35 by omega);simpa using this
 have Q5:=LH q5;have hSl:S.length≤34359738368:=by have:=hI.len;rw [Nat.pow_succ] at q5;omega
 have cc:=bC hh;have cf:=bF hh;have zg:=lB hh;have H:=LH hh;have HO:=LH ho;have HI:=LH hI;have HD:=LH hid;clear hh ho hI q5 hid
 go_enter Tryz.func205,Tryz.ntmps205
 go_wp2_with ((at_make;refine wpList_make_full _ rfl _ _ 31 rfl w.heap.size 154 i0 (.agg #[.int .i64 0,.int .i64 0]) 2 Tryz.underlying31 hi hz0 hz1 _ _ _ _ (2^ (b+1)) rfl rfl ?hL ?hC ?b2 ?b3 ?b4 ?hK))
 case hL=>simp
 case hC=>simp
 case b2=>rw [hz2];have:=Q5.out;omega
 case b3=>have:=Q5.out;simp only [maxLen];omega
 case b4=>simp
 case hK=>
  intro w1 hr hg;have hmf:=made_flat encN (0,0) #[.int .i64 0,.int .i64 0] (2^ (b+1)) rfl (by decide);rw [hmf] at hr;have ho1:=Own.of_row hr (by simp) (by decide);have k1:=zH (i:=1) H.out (.int .i64 (b+1:Nat));have hgs:=hg.size;simp only [World.setCell,Array.size_modify] at hgs;have k2:=(hg.block g (by simpa using zg) (by simp)).trans k1;have hnb:g≠sb:=fun he=>HO.out.ne_block H.out (by decide) (by rw [he];rfl);have hT:Turn (fun x=>x=g) w w1:=((Turn.refl (fun x=>x=g) w).setCell (p:=⟨g,1,none⟩) (.inl rfl) (.int .i64 ((b:Int) +1))).grown hg (fun _ h=>by cases h);have cc1:=bC k2;have cf1:=bF k2;have zg1:=lB k2;have HR:=LH (ho1.base_le (b:=w.heap.size) (by simp));have K2:=LH k2;clear hr hg hmf ho1 k1 k2 cc cf;go_wp2_with fail
  go_loopw [29] (fun i wr=>∃(k:Nat) (S':List Nd),k≤S.length∧i=.int .i64 k∧wr.heap[g]? =some (.cells #[v0,.int .i64 (b+1:Nat),v2,v3,.slice (some ⟨w.heap.size,0,none⟩) (2^ (b+1)) (2^ (b+1))] 225 (0,0))∧
   Own wr w.heap.size 154 encN (.slice (some ⟨w.heap.size,0,none⟩) (2^ (b+1)) (2^ (b+1))) S'∧PInv (b+1) S' ((S.take k).filter full)∧Turn (fun x=>x=g) w wr) (fun i _=>S.length - (intOf i).toNat)
  case atStart=>exact⟨0,_,Nat.zero_le _,rfl,zH K2.out _,HR.out.setCell (by simp [Value.ownBlock];omega) _,PInv.empty (b+1),hT.setCell (.inl rfl) _⟩
  case round=>
   obtain⟨k,S',hk,rfl,hg4,hown,hP,hTr⟩:=hrel;have hs:=hTr.size;have zg2:=lB hg4;have cc2:=bC hg4;have cf2:=bF hg4;have KG:=LH hg4;have KO:=LH hown;have KP:=LH hP;have KS:=LH (hTr.own HO.out (fun q hq=>by cases hq;exact fun h=>hnb h.symm));clear cc1 cf1 hg4 hown hP;by_cases hlt:k<S.length
   ·have d0:=KS.out.slT.cell_at hlt 0 (.int .i64 S[k].1) rfl
    have d1:=KS.out.slT.cell_at hlt 1 (.int .i64 S[k].2) rfl;have zs:=(KS.out.lt sb rfl).2;simp only [Nat.add_zero] at d0;obtain⟨x,hx⟩ : ∃x,x=S[k]:=⟨_,rfl⟩;rw [←hx] at d0 d1;have HX:=LH (show S[k]? =some x by rw [hx];exact List.getElem?_eq_getElem hlt);clear hx;by_cases hx0:0<x.2
    ·have hmem:=HI.out.mem HX.out (by omega)
     have hxi:=HD.out x hmem
     have hfr: ((S.take k).filter full).length<2^ (b+1):=by
      have h1:=List.length_filter_le full (S.take k);have h2: (S.take k).length≤S.length:=List.length_take_le' _ _;have h3:=HI.out.len;have h4:=Nat.two_pow_pos b;rw [Nat.pow_succ];omega
     have HF:=LH hfr;have HA:=LH ((Below.refl wr.heap.size wr).alloc (Nat.le_refl _) (.cells #[.int .i64 x.1,.int .i64 x.2] 154));clear hmem hfr;go_wp2_with fail;refine(probe_look _ g (b+1) w.heap.size 0 _ _ v0 v2 v3 S' ((S.take k).filter full) x.1 (bB KG.out HA.out) ((KO.out.base_le (Nat.zero_le _)).alloc _) KP.out HF.out (by omega) (by omega) hxi.1 hxi.2).mono ?_;rintro e w2 ⟨i,d,rfl,hL,hb2⟩;have B2:=hb2;have A2:=HA.out.trans (hb2.mono (by simp));have k2:=bB KG.out A2;have o2:=KO.out.below A2;have hil:i<S'.length:=by rw [KP.out.len];exact hL.i_lt
     have cb:=bC (bB (heap_new_at wr (.cells #[.int .i64 x.1,.int .i64 x.2] 154) _ rfl) hb2);have c2:=bC k2;have f2:=bF k2;have d2:=o2.slT.cell_at hil 0 (.int .i64 S'[i].1) rfl;have d3:=o2.slT.cell_at hil 1 (.int .i64 S'[i].2) rfl;simp only [Nat.add_zero,Nat.zero_add] at d2 d3;have fb:=o2.frozen;have KG2:=LH k2;have KO2:=LH o2;have KL:=LH hL;have T2:=LH (hTr.more A2);have hiN: (i:Int) <2^ (b+1):=by have:=hL.i_lt;exact_mod_cast this
     have hiN2:i<2^ (b+1):=hL.i_lt;have zo2:=(o2.lt _ rfl).2;have zg3:=lB k2;clear hL hb2 B2 k2 o2 cc2 cf2 A2;go_wp2_with fail
     go_region
     have o4:=own_slot KO2.out i hil x;simp only [Nat.zero_add] at o4;have P4:=LH (HI.out.put_next KP.out hlt HX.out (by omega) KL.out);have O4:=LH o4;have hgw:g≠w.heap.size:=by omega
     have k4:=(Below.heap_setCell _ ⟨w.heap.size,i*2+1,none⟩ (.int .i64 x.2) g hgw).trans ((Below.heap_setCell w2 ⟨w.heap.size,i*2,none⟩ (.int .i64 x.1) g hgw).trans KG2.out);have K4:=LH k4;clear o4 k4;go_wp2_with fail;go_roundw
     case rel=>exact⟨k+1,_,by omega,by go_num,K4.out,O4.out,P4.out,((T2.out.setCell (.inr (Nat.le_refl _)) _).setCell (.inr (Nat.le_refl _)) _).drew⟩
     case measure=>simp [intOf];omega
    ·go_wp2_with fail
     go_roundw
     case rel=>exact⟨k+1,S',by omega,by go_num,(bB KG.out ((Below.refl wr.heap.size wr).alloc (Nat.le_refl _) _)),KO.out.alloc _,by
      rw [take_filter_succ hlt x HX.out,if_pos (by have:=HI.out.nonneg HX.out;omega),List.append_nil];exact KP.out,hTr.alloc _⟩
     case measure=>simp [intOf];omega
   ·obtain rfl:k=S.length:=by omega
    rw [List.take_length] at KP;go_wp2_with fail
    go_end0
    have hl:S'.length=2^ (b+1):=KP.out.len;exact⟨w.heap.size,0,2^ (b+1),S',rfl,by rw [hl];exact KG.out,Nat.le_refl _,by rw [hl];exact KO.out.base_le (Nat.zero_le _),KP.out.perm' HI.out.perm,hTr⟩
theorem perm_turn {b i:Nat} {S r:List Nd} {id c:Int} (hr:Roll r) (h:PInv b S r) (hi:S[i]? =some (id,getR r id)) (h0:getR r id≠0) (hc:1≤getR r id+c) :PInv b (S.set i (id,getR r id+c)) (addR r id c):=by
 obtain⟨t,h1,h2⟩:=addR_perm_old (c:=c) hr h0;exact(h.turn hi h0 hc h1).perm' h2.symm
theorem perm_put {b i d:Nat} {S r:List Nd} {id c:Int} (hr:Roll r) (h:PInv b S r) (hl:LookAt S b id i d) (h0:getR r id=0) (hc:1≤c) :PInv b (S.set i (id,c)) (addR r id c):=by
 refine(h.put hl (fun x hx he=> ?_) hc).perm' (addR_perm_new hr h0).symm;have:=mem_getR h.ids hx;rw [he,h0] at this;have:=h.pos x hx;omega
theorem probe_stored_old {w:World} {g l b sb off cap i:Nat} {r r' S:List Nd} {id v m a:Int} {v3:Value} (hh:w.heap[g]? =some (.cells #[.int .i64 l,.int .i64 b,.int .i64 r.length,v3,.slice (some ⟨sb,off,none⟩) S.length cap] 225 (0,0)))
 (ho:Own w 0 154 encN (.slice (some ⟨sb,off,none⟩) S.length cap) S) (hi:S[i]? =some (id,v)) (hI:PInv b (S.set i (id,a)) r') (h3:3≤b) (h34:b≤34) (hfree:2*r'.length≤2^b) (hu:r'.length=r.length) (hm:sumR r'=m) :
 ProbeAt ((w.setCell ⟨sb,off+i*2+1,none⟩ (.int .i64 a)).setCell ⟨g,3,none⟩ (.int .i64 m)) g l r' (foot2 g (.slice (some ⟨sb,off,none⟩) S.length cap)):=by
 have hlt:=(List.getElem?_eq_some_iff.1 hi).1;have hne:=ho.ne_block hh (by decide);have hgb:g≠sb:=fun he=>hne (by rw [he];rfl);have he:S[i] = (id,v):=(List.getElem?_eq_some_iff.1 hi).2;have o2:=ho.setElem i 1 hlt (by decide) (.int .i64 a) (id,a) (by rw [he];rfl);have k2: (w.setCell ⟨sb,off+i*2+1,none⟩ (.int .i64 a)).heap[g]? =_:=(Below.heap_setCell _ _ _ _ hgb).trans hh;have k3:=zH (i:=3) k2 (.int .i64 m);have o3:=o2.setCell (p:=⟨g,3,none⟩) (o2.ne_block k2 (by decide)) (.int .i64 m);subst hm;exact⟨_,S.set i (id,a),b,by rw [k3,hu];rfl,o3,hI,h3,h34,hfree,rfl⟩
theorem probe_stored_new {w:World} {g l b sb off cap i u n:Nat} {r' S:List Nd} {id c m:Int} {v3:Value} (hh:w.heap[g]? =some (.cells #[.int .i64 l,.int .i64 b,.int .i64 u,v3,.slice (some ⟨sb,off,none⟩) n cap] 225 (0,0)))
 (ho:Own w 0 154 encN (.slice (some ⟨sb,off,none⟩) n cap) S) (hi:i<S.length) (hI:PInv b (S.set i (id,c)) r') (h3:3≤b) (h34:b≤34) (hfree:2*r'.length≤2^b) (hu:r'.length=u) (hm:sumR r'=m) :
 ProbeAt (((w.setCell ⟨sb,off+i*2,none⟩ (.int .i64 id)).setCell ⟨sb,off+i*2+1,none⟩ (.int .i64 c)).setCell ⟨g,3,none⟩ (.int .i64 m)) g l r' (foot2 g (.slice (some ⟨sb,off,none⟩) n cap)):=by
 have hne:=ho.ne_block hh (by decide);have hgb:g≠sb:=fun he=>hne (by rw [he];rfl);have o2:=own_slot ho i hi (id,c);have k1: (w.setCell ⟨sb,off+i*2,none⟩ (.int .i64 id)).heap[g]? =_:=(Below.heap_setCell _ _ _ _ hgb).trans hh;have k2: ((w.setCell ⟨sb,off+i*2,none⟩ (.int .i64 id)).setCell ⟨sb,off+i*2+1,none⟩ (.int .i64 c)).heap[g]? =_:=(Below.heap_setCell _ _ _ _ hgb).trans k1;have k3:=zH (i:=3) k2 (.int .i64 m);have o3:=o2.setCell (p:=⟨g,3,none⟩) (o2.ne_block k2 (by decide)) (.int .i64 m);subst hm hu;exact⟨_,S.set i (id,c),b,by rw [k3];rfl,o3,hI,h3,h34,hfree,rfl⟩
def AddPost (w:World) (g l:Nat) (r:List Nd) (F:Nat→Prop) (e:Ending) (w':World) :Prop:=∃F',e=.returned (.int .i64 0)∧ProbeAt w' g l r F'∧Turn F w w'∧Grow w F F'
theorem probe_Add_old (w:World) (g l:Nat) (r:List Nd) (F:Nat→Prop) (h:ProbeAt w g l r F) (hf:Fits l r) (h1:1≤l) (h2:l≤48) (k:Nat) (hk1:1≤k) (hk2:k<2*2^l) (c:Int) (hc:0<c) (hsum:sumR r+c≤72057594037927935) (h0:0<getR r k) :
 Calls Tryz.prog 171 #[.pointer (some ⟨g,0,none⟩),.int .i64 k,.int .i64 c] w (AddPost w g l (addR r k c) F):=by
 have HN:=LH (isNode_of h1 (by omega) hk1 hk2);have hs0:=sumR_nonneg hf.roll;have hlen:=len_le_sum hf.roll;have hgs:=getR_le_sum hf.roll k;have HA:=LH (show addOf (sumR r) c= (sumR r+c,true) by simp only [addOf];rw [if_pos (by omega)])
 have hkb: (k:Int)≤562949953421312:=by have:=pow_48 h2;have h3: (k:Int) <2*2^l:=by exact_mod_cast hk2
                                       omega
 obtain⟨v,S,b,hh,ho,hI,hq3,hq34,hfree,rfl⟩:=h;obtain⟨sb,off,cap,rfl,hcap⟩:=own_at0 ho (by rw [hI.len];exact Nat.two_pow_pos b);have hm:r.length<2^b:=by have:=Nat.two_pow_pos b;omega
 have hl:=hI.len;have hSl:S.length≤34359738368:=by rw [hl];have:=Nat.pow_le_pow_right (n:=2) (by decide) (show b≤35 by omega);simpa using this
 have cc:=bC hh;have cf:=bF hh;have zg:=lB hh;have zb:=(ho.lt _ rfl).2;have hnb:g≠sb:=fun he=>ho.ne_block hh (by decide) (by rw [he];rfl);have H:=LH hh;have HO:=LH ho;have HI:=LH hI;have HF:=LH (And.intro hm (And.intro hfree hl));clear hh ho hI hfree hl hm
 go_enter Tryz.func171,Tryz.ntmps171
 go_wp2_with fail;refine(probe_right _ g l _ k H.out rfl).mono ?_;rintro e w1 ⟨rfl,hb1⟩;have B1:Below w.heap.size w w1:=Below.then_ bE hb1;have s1:=B1.size;rw [HN.out];have k1:=bB H.out hb1;have o1:=HO.out.below hb1;have cc1:=bC k1;have cf1:=bF k1;have K1:=LH k1;have O1:=LH o1;clear cc cf k1 o1;go_wp2_with fail;refine(reckon_Add _ (sumR r) c (by omega) (by omega)).mono ?_;rintro e w2 ⟨rfl,hb2⟩;have B2:Below w.heap.size w w2:=Below.then_ bE hb2;have s2:=B2.size;rw [HA.out];unfold okV;have k2:=bB K1.out hb2;have o2:=O1.out.below hb2;have cc2:=bC k2;have K2:=LH k2;have O2:=LH o2;clear cc1 cf1 k2 o2;go_wp2_with fail;refine(probe_look _ g b sb off _ cap _ _ _ S r k K2.out O2.out HI.out HF.out.1 hq3 (by omega) (by omega) hkb).mono ?_;rintro e w3 ⟨i,d,rfl,hL,hb3⟩;have B3:Below w.heap.size w w3:=Below.then_ bE hb3;have s3:=B3.size;have k3:=bB K2.out hb3;have o3:=O2.out.below hb3;have cc3:=bC k3;have cf3:=bF k3;have hil:i<S.length:=by rw [HF.out.2.2];exact hL.i_lt
 have hx:=hL.hit HI.out (by omega);have d0:=o3.slT.cell_at hil 0 (.int .i64 S[i].1) rfl;have d1:=o3.slT.cell_at hil 1 (.int .i64 S[i].2) rfl;rw [List.getElem?_eq_getElem hil] at hx
 injection hx with hx
 rw [hx] at d0 d1;simp only [Nat.add_zero] at d0 d1;have fb:=o3.frozen;have zg3:=lB k3;have zb3:=(o3.lt _ rfl).2;have K3:=LH k3;have O3:=LH o3;have HX:=LH (show S[i]? =some ((k:Int),getR r k) by rw [←hx];exact List.getElem?_eq_getElem hil);have T3:Turn (foot2 g (.slice (some ⟨sb,off,none⟩) S.length cap)) w w3:=.of_below B3;clear hL hx cc2 k3 o3 hb3;have hil2: (i:Int) < (S.length:Int):=by omega
 go_wp2_with fail;go_ret;refine⟨_,rfl,?_,?_,Grow.refl⟩
 ·exact probe_stored_old (r':=addR r k c) K3.out O3.out HX.out (perm_turn hf.roll HI.out HX.out (by omega) (by omega)) hq3 hq34 (by rw [len_add hf.roll,if_neg (by omega)];exact HF.out.2.1) (by rw [len_add hf.roll,if_neg (by omega)]) (sumR_add r k c)
 ·refine Turn.setCell (Turn.setCell T3 ?_ _) ?_ _
  ·exact .inl (.inr rfl)
  ·exact .inl (.inl rfl)
theorem probe_Add_new (w:World) (g l:Nat) (r:List Nd) (F:Nat→Prop) (h:ProbeAt w g l r F) (hf:Fits l r) (h1:1≤l) (h2:l≤48) (k:Nat) (hk1:1≤k) (hk2:k<2*2^l) (c:Int) (hc:0<c) (hsum:sumR r+c≤72057594037927935) (h0:getR r k=0) (hr30:r.length<1073741824) :
 Calls Tryz.prog 171 #[.pointer (some ⟨g,0,none⟩),.int .i64 k,.int .i64 c] w (AddPost w g l (addR r k c) F):=by
 have HN:=LH (isNode_of h1 (by omega) hk1 hk2);have hs0:=sumR_nonneg hf.roll;have hlen:=len_le_sum hf.roll;have hgs:=getR_le_sum hf.roll k;have HA:=LH (show addOf (sumR r) c= (sumR r+c,true) by simp only [addOf];rw [if_pos (by omega)])
 have hkb: (k:Int)≤562949953421312:=by have:=pow_48 h2;have h3: (k:Int) <2*2^l:=by exact_mod_cast hk2
                                       omega
 obtain⟨v,S,b,hh,ho,hI,hq3,hq34,hfree,rfl⟩:=h;obtain⟨sb,off,cap,rfl,hcap⟩:=own_at0 ho (by rw [hI.len];exact Nat.two_pow_pos b);have hm:r.length<2^b:=by have:=Nat.two_pow_pos b;omega
 have hl:=hI.len;have hSl:S.length≤34359738368:=by rw [hl];have:=Nat.pow_le_pow_right (n:=2) (by decide) (show b≤35 by omega);simpa using this
 have cc:=bC hh;have cf:=bF hh;have zg:=lB hh;have zb:=(ho.lt _ rfl).2;have hnb:g≠sb:=fun he=>ho.ne_block hh (by decide) (by rw [he];rfl);have H:=LH hh;have HO:=LH ho;have HI:=LH hI;have HF:=LH (And.intro hm (And.intro hfree hl));clear hh ho hI hfree hl hm
 go_enter Tryz.func171,Tryz.ntmps171
 go_wp2_with fail;refine(probe_right _ g l _ k H.out rfl).mono ?_;rintro e w1 ⟨rfl,hb1⟩;have B1:Below w.heap.size w w1:=Below.then_ bE hb1;have s1:=B1.size;rw [HN.out];have k1:=bB H.out hb1;have o1:=HO.out.below hb1;have cc1:=bC k1;have cf1:=bF k1;have K1:=LH k1;have O1:=LH o1;clear cc cf k1 o1;go_wp2_with fail;refine(reckon_Add _ (sumR r) c (by omega) (by omega)).mono ?_;rintro e w2 ⟨rfl,hb2⟩;have B2:Below w.heap.size w w2:=Below.then_ bE hb2;have s2:=B2.size;rw [HA.out];unfold okV;have k2:=bB K1.out hb2;have o2:=O1.out.below hb2;have cc2:=bC k2;have K2:=LH k2;have O2:=LH o2;clear cc1 cf1 k2 o2;go_wp2_with fail;refine(probe_look _ g b sb off _ cap _ _ _ S r k K2.out O2.out HI.out HF.out.1 hq3 (by omega) (by omega) hkb).mono ?_;rintro e w3 ⟨i,d,rfl,hL,hb3⟩;have B3:Below w.heap.size w w3:=Below.then_ bE hb3;have s3:=B3.size;have k3:=bB K2.out hb3;have o3:=O2.out.below hb3;have cc3:=bC k3;have cf3:=bF k3;have hil:i<S.length:=by rw [HF.out.2.2];exact hL.i_lt
 obtain⟨x,hx,hx0⟩:=hL.miss HI.out h0;have d1:=o3.slT.cell_at hil 1 (.int .i64 S[i].2) rfl;rw [List.getElem?_eq_getElem hil] at hx
 injection hx with hx
 rw [hx,hx0] at d1;have fb:=o3.frozen;have zg3:=lB k3;have zb3:=(o3.lt _ rfl).2;have K3:=LH k3;have O3:=LH o3;have HL:=LH hL;have HE:=LH (len_add hf.roll (k:Int) c);have H0:=LH h0;have T3:Turn (foot2 g (.slice (some ⟨sb,off,none⟩) S.length cap)) w w3:=.of_below B3;have HX:=LH (And.intro hx hx0);clear hL hx hx0 cc2 k3 o3 hb3 h0 hgs;have hil2: (i:Int) < (S.length:Int):=by omega
 have k4:=zH (i:=2) K3.out (.int .i64 ((r.length:Int) +1));have o4:=O3.out.setCell (p:=⟨g,2,none⟩) (O3.out.ne_block K3.out (by decide)) (.int .i64 ((r.length:Int) +1));have T4:=T3.setCell (p:=⟨g,2,none⟩) (.inl (.inl rfl)) (.int .i64 ((r.length:Int) +1));have K4:=LH k4;have O4:=LH o4;clear k4 o4;go_wp2_with fail;refine rX (by kernel_rfl) (by kernel_rfl) ?_
 repeat (go_big_quiet_step (fail))
 refine wpQuiet_nil ?_;intro w5 hb5;replace hb5:=bX hb5;have k5:=bB K4.out hb5;have o5:=O4.out.below hb5;have T5:=T4.more hb5;have cc5:=bC k5;have cf5:=bF k5;have fb5:=o5.frozen;have zg5:=lB k5;have zb5:=(o5.lt _ rfl).2;have K5:=LH k5;have O5:=LH o5;clear cc3 cf3 fb zg3 zb3 d1 T3 T4 k5 o5 hb5;by_cases hw:2* ((r.length:Int) +1) >S.length
 ·have hw': (S.length:Int) <2* ((r.length:Int) +1):=hw
  have hb31:b≤31:=by
   apply Classical.byContradiction
   intro hn;have h1:=Nat.pow_le_pow_right (n:=2) (by decide) (show 32≤b by omega);have h2:=HF.out.2.2;omega
  have HW:=LH hw';have hK5:w5.heap[g]? =some (.cells #[.int .i64 l,.int .i64 b,.int .i64 (r.length+1:Nat),.int .i64 (sumR r),.slice (some ⟨sb,off,none⟩) S.length cap] 225 (0,0)):=K5.out;have HK5:=LH hK5;clear hK5;go_wp2_with fail;refine(probe_widen _ g b sb off cap _ _ _ S r HK5.out O5.out HI.out hq3 hq34 (fun y hy=>⟨(hf.roll.2 y hy).1,by have h1:=hf.lt y hy;have:=pow_48 h2;omega⟩)).mono ?_;rintro e w6 ⟨sb',off',cap',S',rfl,k6,hsb',o6,hI6,T6⟩;have z6:=T6.size;have z5:=T5.size;have HZ:w.heap.size≤sb':=Nat.le_trans z5 hsb';have T6':=T5.trans T6 (fun q hq=>.inl (by subst hq;exact .inl rfl));have cc6:=bC k6;have K6:=LH k6;have O6:=LH o6;have HI6:=LH hI6;clear cc5 cf5 fb5 zb5 k6 o6 hI6;go_wp2_with fail;refine(probe_look _ g (b+1) sb' off' _ cap' _ _ _ S' r k K6.out O6.out HI6.out (by have:=HF.out.1;rw [Nat.pow_succ];omega) (by omega) (by omega) (by omega) hkb).mono ?_;rintro e w7 ⟨i',d',rfl,hL7,hb7⟩;have k7:=bB K6.out hb7;have o7:=O6.out.below hb7;have T7:=T6'.more hb7;have hil7:i'<S'.length:=by rw [HI6.out.len];exact hL7.i_lt
  obtain⟨x7,hx7,hx70⟩:=hL7.miss HI6.out H0.out;rw [List.getElem?_eq_getElem hil7] at hx7
  injection hx7 with hx7
  have d6:=o7.slT.cell_at hil7 0 (.int .i64 S'[i'].1) rfl;have d7:=o7.slT.cell_at hil7 1 (.int .i64 S'[i'].2) rfl;rw [hx7] at d6 d7;rw [hx70] at d7;simp only [Nat.add_zero] at d6 d7;have cc7:=bC k7;have cf7:=bF k7;have fb7:=o7.frozen;have zg7:=lB k7;have zb7:=(o7.lt _ rfl).2;have K7:=LH k7;have O7:=LH o7;have HL7:=LH hL7;have hil72: (i':Int) < (S'.length:Int):=by omega
  have hS7:S'.length≤34359738368:=by rw [HI6.out.len];have:=Nat.pow_le_pow_right (n:=2) (by decide) (show b+1≤35 by omega);simpa using this
  clear cc6 k7 o7 hb7 hL7 hx7 hx70;have hg6:g≠sb':=by omega
  have hg7:sb'≠g:=by omega
  go_wp2_with fail;go_ret;have hp:=Nat.two_pow_pos b;have hfr:=HF.out.2.1;refine⟨foot2 g (.slice (some ⟨sb',off',none⟩) S'.length cap'),rfl,?_,?_,?_⟩
  ·exact probe_stored_new (r':=addR r k c) K7.out O7.out hil7 (perm_put hf.roll HI6.out HL7.out H0.out (by omega)) (by omega) (by omega) (by rw [len_add hf.roll,if_pos H0.out,Nat.pow_succ];omega) (by rw [len_add hf.roll,if_pos H0.out]) (sumR_add r k c)
  ·refine Turn.setCell (Turn.setCell (Turn.setCell T7 ?_ _) ?_ _) ?_ _
   ·exact .inr HZ
   ·exact .inr HZ
   ·exact .inl (.inl rfl)
  ·rintro q (rfl|hq)
   ·exact .inl (.inl rfl)
   ·cases hq;exact .inr HZ
 ·have d6:=O5.out.slT.cell_at hil 0 (.int .i64 S[i].1) rfl
  have d7:=O5.out.slT.cell_at hil 1 (.int .i64 S[i].2) rfl;rw [HX.out.1] at d6 d7;rw [HX.out.2] at d7;simp only [Nat.add_zero] at d6 d7;go_wp2_with fail;go_ret;refine⟨_,rfl,?_,?_,Grow.refl⟩
  ·exact probe_stored_new (r':=addR r k c) K5.out O5.out hil (perm_put hf.roll HI.out HL.out H0.out (by omega)) hq3 hq34 (by rw [len_add hf.roll,if_pos H0.out];have:=HF.out.2.2;omega) (by rw [len_add hf.roll,if_pos H0.out]) (sumR_add r k c)
  ·refine Turn.setCell (Turn.setCell (Turn.setCell T5 ?_ _) ?_ _) ?_ _
   ·exact .inl (.inr rfl)
   ·exact .inl (.inr rfl)
   ·exact .inl (.inl rfl)
theorem probe_Add (w:World) (g l:Nat) (r:List Nd) (F:Nat→Prop) (h:ProbeAt w g l r F) (hf:Fits l r) (h1:1≤l) (h2:l≤48) (k:Nat) (hk1:1≤k) (hk2:k<2*2^l) (c:Int) (hc:0<c) (hsum:sumR r+c≤72057594037927935) (hr30:r.length<1073741824) :
 Calls Tryz.prog 171 #[.pointer (some ⟨g,0,none⟩),.int .i64 k,.int .i64 c] w (AddPost w g l (addR r k c) F):=by
 by_cases h0:getR r k=0
 ·exact probe_Add_new w g l r F h hf h1 h2 k hk1 hk2 c hc hsum h0 hr30
 ·have:=getR_nonneg hf.roll (k:Int)
  exact probe_Add_old w g l r F h hf h1 h2 k hk1 hk2 c hc hsum (by omega)
theorem ProbeAt.keep {w w':World} {g l:Nat} {r:List Nd} {F:Nat→Prop} (h:ProbeAt w g l r F) (hk: ∀b,F b→w'.heap[b]? =w.heap[b]?) :ProbeAt w' g l r F:=by
 obtain⟨v,S,b,hh,ho,h1,h2,h3,h4,rfl⟩:=h;exact⟨v,S,b,(hk g (.inl rfl)).trans hh,ho.of_block fun b hb=>hk b (.inr hb),h1,h2,h3,h4,rfl⟩
theorem ProbeAt.lt {w:World} {g l:Nat} {r:List Nd} {F:Nat→Prop} (h:ProbeAt w g l r F) : ∀b,F b→b<w.heap.size:=by
 obtain⟨v,S,b,hh,ho,_,_,_,_,rfl⟩:=h;rintro q (rfl|hq)
 ·exact lB hh
 ·exact(ho.lt q hq).2
theorem ProbeAt.below {w w':World} {g l:Nat} {r:List Nd} {F:Nat→Prop} (h:ProbeAt w g l r F) (hb:Below w.heap.size w w') :ProbeAt w' g l r F:=h.keep fun b hf=>hb.block b (h.lt b hf)
theorem ProbeAt.typed {w:World} {g l:Nat} {r:List Nd} {F:Nat→Prop} (h:ProbeAt w g l r F) : ∀b,F b→TypeAt w b 225∨TypeAt w b 154:=by
 obtain⟨v,S,b,hh,ho,_,_,_,_,rfl⟩:=h;rintro q (rfl|hq)
 ·exact .inl (.of hh)
 ·rcases ho with ⟨rfl,_⟩ | ⟨g1,o1,c1,u1,rfl,_,hh1,_⟩
  ·cases hq
  ·cases hq;exact .inr (.of hh1)
theorem probe_Snap (w:World) (g l:Nat) (r:List Nd) (F:Nat→Prop) (h:ProbeAt w g l r F) (hf:Fits l r) (hn:r.length≤67108864) :Calls Tryz.prog 144 #[.pointer (some ⟨g,0,none⟩)] w (OwnPost 154 encN r w):=by
 obtain⟨v,S,b,hh,ho,hI,hq3,hq34,hfree,rfl⟩:=h;obtain⟨sb,off,cap,rfl,hcap⟩:=own_at0 ho (by rw [hI.len];exact Nat.two_pow_pos b);have hl:=hI.len;have hSl:S.length≤34359738368:=by rw [hl];have:=Nat.pow_le_pow_right (n:=2) (by decide) (show b≤35 by omega);simpa using this
 have hcnt:=hI.count
 have hfl: ∀k,((S.take k).filter full).length≤67108864:=fun k=>by
  have h1: ((S.take k).filter full).length≤(S.filter full).length:=((List.take_sublist k S).filter full).length_le;omega
 have cc:=bC hh;have zg:=lB hh;have zb:=(ho.lt sb rfl).2;have HS:=LH ho.slT;have HI:=LH hI;have HL:=LH hfl;clear hh ho hI hl hcnt hfl hfree
 go_enter Tryz.func144,Tryz.ntmps144
 go_wp2_with fail
 go_loopw [3,13] (fun v i wr=>∃k:Nat,k≤S.length∧i=.int .i64 k∧Below w.heap.size w wr∧Own wr w.heap.size 154 encN v ((S.take k).filter full)) (fun _ i _=>S.length - (intOf i).toNat)
 case atStart=>exact⟨0,Nat.zero_le _,rfl,bE,Own.nil _ _ _ _⟩
 case round=>
  obtain⟨k,hk,rfl,hB,hown⟩:=hrel;have HO:=LH hown;clear hown;have hs:=hB.size;by_cases hlt:k<S.length
  ·have d0:=(hB.cell (p:=⟨sb,off+k*2+0,none⟩) zb).trans (HS.out.cell_at hlt 0 (.int .i64 S[k].1) rfl)
   have d1:=(hB.cell (p:=⟨sb,off+k*2+1,none⟩) zb).trans (HS.out.cell_at hlt 1 (.int .i64 S[k].2) rfl);simp only [Nat.add_zero] at d0;have hle:=HL.out k;obtain⟨x,hx⟩ : ∃x,x=S[k]:=⟨_,rfl⟩;rw [←hx] at d0 d1;have HX:=LH (take_filter_succ hlt x (by rw [hx];exact List.getElem?_eq_getElem hlt));have hx0:=HI.out.nonneg (i:=k) (x:=x) (by rw [hx];exact List.getElem?_eq_getElem hlt);clear hx;by_cases hn:0<x.2
   ·go_wp2_with ((at_builtin;refine wpList_push tyN rfl _ _ rfl encN (wr.alloc _) w.heap.size u3 _ rfl (HO.out.alloc _) x (by go_simp) rfl ?c1 ?c2 ?c3 ?c4))
    case c1=>omega
    case c2=>simp only [maxLen];omega
    case c3=>simp;omega
    case c4=>
     intro v' w2 hown2 hgrow _ hlies hb2 _;have HO2:=LH (show Own w2 w.heap.size 154 encN v' ((S.take (k+1)).filter full) by rw [HX.out,if_neg (by omega)];exact hown2);clear hown2;go_wp2_with fail;go_roundw
     case rel=>exact⟨k+1,by omega,by go_num,Below.trans (Below.allocW hB _) hb2,HO2.out⟩
     case measure=>simp [intOf];omega
   ·have HO2:=LH (show Own wr w.heap.size 154 encN u3 ((S.take (k+1)).filter full) by rw [HX.out,if_pos (by omega),List.append_nil];exact HO.out)
    go_wp2_with fail;go_roundw
    case rel=>exact⟨k+1,by omega,by go_num,Below.allocW hB _,HO2.out.alloc _⟩
    case measure=>simp [intOf];omega
  ·obtain rfl:k=S.length:=by omega
   rw [List.take_length] at HO;have HM:=LH (msort_roll HI.out.perm hf.roll);have hm:=HL.out S.length;rw [List.take_length] at hm;go_wp2_with fail;refine(roll_Sorted _ _ _ HO.out.rd hm).mono ?_;rintro e w2 ⟨v2,rfl,ho2,hb2⟩;rw [HM.out] at ho2;have HO2:=LH ho2;have HB2:=LH (hB.trans (hb2.mono hs));clear ho2 hb2;go_wp2_with fail;go_ret;exact⟨_,rfl,HO2.out.base_le hs,HB2.out⟩
def footP (g:Nat) (F0:Nat→Prop) :Nat→Prop:=fun b=>b=g∨F0 b
def PoolAt (w:World) (g K l:Nat) (r:List Nd) (F:Nat→Prop) :Prop:=
 1≤l∧l≤48∧Fits l r∧∃h F0,F=footP g F0∧((K=1∧l≤16∧w.heap[g]? =some (.cells #[.pointer (some ⟨h,0,none⟩),.pointer none] 186 (0,0))∧DenseAt w h l r F0)∨
  (K=2∧w.heap[g]? =some (.cells #[.pointer none,.pointer (some ⟨h,0,none⟩)] 186 (0,0))∧ProbeAt w h l r F0))
theorem PoolAt.keep {w w':World} {g K l:Nat} {r:List Nd} {F:Nat→Prop} (h:PoolAt w g K l r F) (hk: ∀b,F b→w'.heap[b]? =w.heap[b]?) :PoolAt w' g K l r F:=by
 obtain⟨h1,h2,h3,p,F0,rfl,h4⟩:=h;refine⟨h1,h2,h3,p,F0,rfl,?_⟩;rcases h4 with ⟨a,b,c,d⟩ | ⟨a,c,d⟩
 ·exact .inl ⟨a,b,(hk g (.inl rfl)).trans c,d.keep fun q hq=>hk q (.inr hq)⟩
 ·exact .inr ⟨a,(hk g (.inl rfl)).trans c,d.keep fun q hq=>hk q (.inr hq)⟩
theorem PoolAt.lt {w:World} {g K l:Nat} {r:List Nd} {F:Nat→Prop} (h:PoolAt w g K l r F) : ∀b,F b→b<w.heap.size:=by
 obtain⟨h1,h2,h3,p,F0,rfl,h4⟩:=h;rintro q (rfl|hq)
 ·rcases h4 with ⟨a,b,c,d⟩ | ⟨a,c,d⟩
  ·exact lB c
  ·exact lB c
 ·rcases h4 with ⟨a,b,c,d⟩ | ⟨a,c,d⟩
  ·exact d.lt q hq
  ·exact d.lt q hq
theorem PoolAt.below {w w':World} {g K l:Nat} {r:List Nd} {F:Nat→Prop} (h:PoolAt w g K l r F) (hb:Below w.heap.size w w') :PoolAt w' g K l r F:=h.keep fun b hf=>hb.block b (h.lt b hf)
theorem PoolAt.fits {w:World} {g K l:Nat} {r:List Nd} {F:Nat→Prop} (h:PoolAt w g K l r F) :Fits l r:=h.2.2.1
def PoolTypes (t:TypeId) :Prop:=t=186∨t=223∨t=3∨t=225∨t=154
theorem PoolAt.typed {w:World} {g K l:Nat} {r:List Nd} {F:Nat→Prop} (h:PoolAt w g K l r F) : ∀b,F b→∃t,PoolTypes t∧TypeAt w b t:=by
 obtain⟨h1,h2,h3,p,F0,rfl,h4⟩:=h;rintro q (rfl|hq)
 ·rcases h4 with ⟨a,b,c,d⟩ | ⟨a,c,d⟩
  ·exact⟨_,.inl rfl,.of c⟩
  ·exact⟨_,.inl rfl,.of c⟩
 ·rcases h4 with ⟨a,b,c,d⟩ | ⟨a,c,d⟩
  ·rcases d.typed q hq with h|h
   ·exact⟨_,.inr (.inl rfl),h⟩
   ·exact⟨_,.inr (.inr (.inl rfl)),h⟩
  ·rcases d.typed q hq with h|h
   ·exact⟨_,.inr (.inr (.inr (.inl rfl))),h⟩
   ·exact⟨_,.inr (.inr (.inr (.inr rfl))),h⟩
theorem typeAt_eq {w:World} {b t t':Nat} (h:TypeAt w b t) (h':TypeAt w b t') :t=t':=by
 obtain⟨_,_,h⟩:=h;obtain⟨_,_,h'⟩:=h';rw [h] at h'
 cases h'
 rfl
theorem pool_isArray (w:World) (g h:Nat) (q0:Value) (hh:w.heap[g]? =some (.cells #[.pointer (some ⟨h,0,none⟩),q0] 186 (0,0))) :Calls Tryz.prog 121 #[.pointer (some ⟨g,0,none⟩)] w fun e w'=>e=.returned (.bool true)∧Below w.heap.size w w':=by
 have c:=bC hh;have z:=lB hh;clear hh
 go_enter Tryz.func121,Tryz.ntmps121
 go_wp2_with fail;go_ret;exact⟨rfl,bE⟩
theorem pool_isArray_no (w:World) (g:Nat) (q0:Value) (hh:w.heap[g]? =some (.cells #[.pointer none,q0] 186 (0,0))) :Calls Tryz.prog 121 #[.pointer (some ⟨g,0,none⟩)] w fun e w'=>e=.returned (.bool false)∧Below w.heap.size w w':=by
 have c:=bC hh;have z:=lB hh;clear hh
 go_enter Tryz.func121,Tryz.ntmps121
 go_wp2_with fail;go_ret;exact⟨rfl,bE⟩
theorem pool_inner (w:World) (g:Nat) (p:Option Addr) (q0:Value) (hh:w.heap[g]? =some (.cells #[q0,.pointer p] 186 (0,0))) :Calls Tryz.prog 123 #[.pointer (some ⟨g,0,none⟩)] w fun e w'=>e=.returned (.pointer p)∧Below w.heap.size w w':=by
 have c:=bC hh;have z:=lB hh;clear hh
 go_enter Tryz.func123,Tryz.ntmps123
 go_wp2_with fail;go_ret;exact⟨rfl,bE⟩
theorem pool_L (w:World) (g K l:Nat) (r:List Nd) (F:Nat→Prop) (h:PoolAt w g K l r F) :Calls Tryz.prog 88 #[.pointer (some ⟨g,0,none⟩)] w fun e w'=>e=.returned (.int .i64 l)∧Below w.heap.size w w':=by
 obtain⟨h1,h2,h3,p,F0,rfl,h4⟩:=h;rcases h4 with ⟨rfl,h16,hh,hd⟩ | ⟨rfl,hh,hd⟩
 ·have H:=LH hh
  have HD:=LH hd;clear hh hd
  go_enter Tryz.func88,Tryz.ntmps88
  go_wp2_with fail;refine(pool_isArray _ g p _ H.out).mono ?_;rintro e w1 ⟨rfl,hb1⟩;have k1:=bB H.out hb1;have c1:=bC k1;have z1:=lB k1;have D1:=LH (HD.out.below hb1);clear k1;go_wp2_with fail;refine(dense_L _ p l r F0 D1.out).mono ?_;rintro e w2 ⟨rfl,hb2⟩;have HB2:=LH (hb1.trans (hb2.mono hb1.size));clear hb2;go_wp2_with fail;go_ret;exact⟨rfl,HB2.out⟩
 ·have H:=LH hh
  have HD:=LH hd;clear hh hd
  go_enter Tryz.func88,Tryz.ntmps88
  go_wp2_with fail;refine(pool_isArray_no _ g _ H.out).mono ?_;rintro e w0 ⟨rfl,hb0⟩;have K0:=LH (bB H.out hb0);go_wp2_with fail;refine(pool_inner _ g _ _ K0.out).mono ?_;rintro e w1 ⟨rfl,hb1'⟩;have hb1:=hb0.trans (hb1'.mono hb0.size);have D1:=LH (HD.out.below hb1);clear hb0 hb1' K0;go_wp2_with fail;refine(probe_L _ p l r F0 D1.out).mono ?_;rintro e w2 ⟨rfl,hb2⟩;have HB2:=LH (hb1.trans (hb2.mono hb1.size));clear hb2;go_wp2_with fail;go_ret;exact⟨rfl,HB2.out⟩
theorem pool_Total (w:World) (g K l:Nat) (r:List Nd) (F:Nat→Prop) (h:PoolAt w g K l r F) :Calls Tryz.prog 74 #[.pointer (some ⟨g,0,none⟩)] w fun e w'=>e=.returned (.int .i64 (sumR r))∧Below w.heap.size w w':=by
 obtain⟨h1,h2,h3,p,F0,rfl,h4⟩:=h;rcases h4 with ⟨rfl,h16,hh,hd⟩ | ⟨rfl,hh,hd⟩
 ·have H:=LH hh
  have HD:=LH hd;clear hh hd
  go_enter Tryz.func74,Tryz.ntmps74
  go_wp2_with fail;refine(pool_isArray _ g p _ H.out).mono ?_;rintro e w1 ⟨rfl,hb1⟩;have k1:=bB H.out hb1;have c1:=bC k1;have z1:=lB k1;have D1:=LH (HD.out.below hb1);clear k1;go_wp2_with fail;refine(dense_Total _ p l r F0 D1.out).mono ?_;rintro e w2 ⟨rfl,hb2⟩;have HB2:=LH (hb1.trans (hb2.mono hb1.size));clear hb2;go_wp2_with fail;go_ret;exact⟨rfl,HB2.out⟩
 ·have H:=LH hh
  have HD:=LH hd;clear hh hd
  go_enter Tryz.func74,Tryz.ntmps74
  go_wp2_with fail;refine(pool_isArray_no _ g _ H.out).mono ?_;rintro e w0 ⟨rfl,hb0⟩;have K0:=LH (bB H.out hb0);go_wp2_with fail;refine(pool_inner _ g _ _ K0.out).mono ?_;rintro e w1 ⟨rfl,hb1'⟩;have hb1:=hb0.trans (hb1'.mono hb0.size);have D1:=LH (HD.out.below hb1);clear hb0 hb1' K0;go_wp2_with fail;refine(probe_Total _ p l r F0 D1.out).mono ?_;rintro e w2 ⟨rfl,hb2⟩;have HB2:=LH (hb1.trans (hb2.mono hb1.size));clear hb2;go_wp2_with fail;go_ret;exact⟨rfl,HB2.out⟩
theorem pool_Snap (w:World) (g K l:Nat) (r:List Nd) (F:Nat→Prop) (h:PoolAt w g K l r F) (hn:r.length≤67108864) :Calls Tryz.prog 90 #[.pointer (some ⟨g,0,none⟩)] w (OwnPost 154 encN r w):=by
 obtain⟨h1,h2,h3,p,F0,rfl,h4⟩:=h;rcases h4 with ⟨rfl,h16,hh,hd⟩ | ⟨rfl,hh,hd⟩
 ·have H:=LH hh
  have HD:=LH hd;clear hh hd
  go_enter Tryz.func90,Tryz.ntmps90
  go_wp2_with fail;refine(pool_isArray _ g p _ H.out).mono ?_;rintro e w1 ⟨rfl,hb1⟩;have k1:=bB H.out hb1;have c1:=bC k1;have z1:=lB k1;have D1:=LH (HD.out.below hb1);clear k1;go_wp2_with fail;refine(dense_Snap _ p l r F0 D1.out h3 h16).mono ?_;rintro e w2 ⟨v,rfl,ho,hb2⟩;have HB2:=LH (hb1.trans (hb2.mono hb1.size));have HO:=LH ho;clear ho;clear hb2;go_wp2_with fail;go_ret;exact⟨_,rfl,HO.out.base_le hb1.size,HB2.out⟩
 ·have H:=LH hh
  have HD:=LH hd;clear hh hd
  go_enter Tryz.func90,Tryz.ntmps90
  go_wp2_with fail;refine(pool_isArray_no _ g _ H.out).mono ?_;rintro e w0 ⟨rfl,hb0⟩;have K0:=LH (bB H.out hb0);go_wp2_with fail;refine(pool_inner _ g _ _ K0.out).mono ?_;rintro e w1 ⟨rfl,hb1'⟩;have hb1:=hb0.trans (hb1'.mono hb0.size);have D1:=LH (HD.out.below hb1);clear hb0 hb1' K0;go_wp2_with fail;refine(probe_Snap _ p l r F0 D1.out h3 hn).mono ?_;rintro e w2 ⟨v,rfl,ho,hb2⟩;have HB2:=LH (hb1.trans (hb2.mono hb1.size));have HO:=LH ho;clear ho;clear hb2;go_wp2_with fail;go_ret;exact⟨_,rfl,HO.out.base_le hb1.size,HB2.out⟩
theorem Fits.add {l:Nat} {r:List Nd} (h:Fits l r) {k c:Int} (hk1:1≤k) (hk2:k<2*2^l) (hc:1≤c) (hsum:sumR r+c≤72057594037927935) :Fits l (addR r k c):=
 ⟨h.roll.add hk1 hc,fun x hx=>by
  rcases addR_mem hx with he|hx
  ·rw [he];exact hk2
  ·exact h.lt x hx,by rw [sumR_add];exact hsum⟩
def PAddPost (w:World) (g K l:Nat) (r:List Nd) (F:Nat→Prop) (v:Value) (e:Ending) (w':World) :Prop:=∃F',e=.returned v∧PoolAt w' g K l r F'∧Turn F w w'∧Grow w F F'
theorem dense_Add (w:World) (g l:Nat) (r:List Nd) (F:Nat→Prop) (h:DenseAt w g l r F) (hf:Fits l r) (h1:1≤l) (h2:l≤16) (k:Nat) (hk1:1≤k) (hk2:k<2*2^l) (c:Int) (hc:0<c) (hsum:sumR r+c≤72057594037927935) :
 Calls Tryz.prog 170 #[.pointer (some ⟨g,0,none⟩),.int .i64 k,.int .i64 c] w fun e w'=>e=.returned (.int .i64 0)∧DenseAt w' g l (addR r k c) F∧Turn F w w':=by
 by_cases h0:getR r k=0
 ·exact dense_Add_new w g l r F h hf h1 h2 k hk1 hk2 c hc hsum h0
 ·have:=getR_nonneg hf.roll (k:Int)
  exact dense_Add_old w g l r F h hf h1 h2 k hk1 hk2 c (by omega) hsum (by omega)
theorem Grow.foot {w:World} {g:Nat} {F F':Nat→Prop} (h:Grow w F F') :Grow w (footP g F) (footP g F'):=fun b hb=>by
 rcases hb with hb|hb
 ·exact .inl (.inl hb)
 ·rcases h b hb with hb|hb
  ·exact .inl (.inr hb)
  ·exact .inr hb
theorem pool_Add (w:World) (g K l:Nat) (r:List Nd) (F:Nat→Prop) (h:PoolAt w g K l r F) (k:Nat) (hk1:1≤k) (hk2:k<2*2^l) (c:Int) (hc:0<c) (hsum:sumR r+c≤72057594037927935) (hr30:r.length<1073741824) :
 Calls Tryz.prog 131 #[.pointer (some ⟨g,0,none⟩),.int .i64 k,.int .i64 c] w (PAddPost w g K l (addR r k c) F (.int .i64 0)):=by
 obtain⟨h1,h2,h3,p,F0,rfl,h4⟩:=h;have hF:=h3.add (k:=(k:Int)) (c:=c) (by omega) (by exact_mod_cast hk2) (by omega) hsum;rcases h4 with ⟨rfl,h16,hh,hd⟩ | ⟨rfl,hh,hd⟩
 ·have hgF: ¬F0 g:=fun hg=>by
   rcases hd.typed g hg with h|h
   ·exact absurd (typeAt_eq h (.of hh)) (by decide)
   ·exact absurd (typeAt_eq h (.of hh)) (by decide)
  have H:=LH hh;have HD:=LH hd;clear hh hd
  go_enter Tryz.func131,Tryz.ntmps131
  go_wp2_with fail;refine(pool_isArray _ g p _ H.out).mono ?_;rintro e w1 ⟨rfl,hb1⟩;have k1:=bB H.out hb1;have c1:=bC k1;have z1:=lB k1;have D1:=LH (HD.out.below hb1);have K1:=LH k1;clear k1;go_wp2_with fail;refine(dense_Add _ p l r F0 D1.out h3 h1 h16 k hk1 hk2 c hc hsum).mono ?_;rintro e w2 ⟨rfl,hd2,hT2⟩
  have HP:Hid (PAddPost w g 1 l (addR r k c) (footP g F0) (.int .i64 0) (.returned (.int .i64 0)) w2):=
   ⟨_,rfl,⟨h1,h2,hF,p,F0,rfl,.inl ⟨rfl,h16,hT2.keep K1.out hgF,hd2⟩⟩,(Turn.of_below hb1).trans hT2 (fun b hb=>.inl (.inr hb)),Grow.refl⟩
  clear hd2 hT2;go_wp2_with fail;go_ret;exact HP.out
 ·have hgF: ¬F0 g:=fun hg=>by
   rcases hd.typed g hg with h|h
   ·exact absurd (typeAt_eq h (.of hh)) (by decide)
   ·exact absurd (typeAt_eq h (.of hh)) (by decide)
  have H:=LH hh;have HD:=LH hd;clear hh hd
  go_enter Tryz.func131,Tryz.ntmps131
  go_wp2_with fail;refine(pool_isArray_no _ g _ H.out).mono ?_;rintro e w0 ⟨rfl,hb0⟩;have K0:=LH (bB H.out hb0);go_wp2_with fail;refine(pool_inner _ g _ _ K0.out).mono ?_;rintro e w1 ⟨rfl,hb1'⟩;have hb1:=hb0.trans (hb1'.mono hb0.size);have D1:=LH (HD.out.below hb1);have K1:=LH (bB H.out hb1);clear hb0 hb1' K0;go_wp2_with fail;refine(probe_Add _ p l r F0 D1.out h3 h1 h2 k hk1 hk2 c hc hsum hr30).mono ?_;rintro e w2 ⟨F2,rfl,hd2,hT2,hG2⟩
  have HP:Hid (PAddPost w g 2 l (addR r k c) (footP g F0) (.int .i64 0) (.returned (.int .i64 0)) w2):=
   ⟨_,rfl,⟨h1,h2,hF,p,F2,rfl,.inr ⟨rfl,hT2.keep K1.out hgF,hd2⟩⟩,(Turn.of_below hb1).trans hT2 (fun b hb=>.inl (.inr hb)),Grow.foot fun b hb=>by
    rcases hG2 b hb with h|h
    ·exact .inl h
    ·exact .inr (Nat.le_trans hb1.size h)⟩
  clear hd2 hT2;go_wp2_with fail;go_ret;exact HP.out
def isPool (K l:Int) :Bool:=decide ((K=1∧1≤l∧l≤16)∨(K=2∧1≤l∧l≤48))
theorem pool_New_no (w:World) (K l:Int) (h:isPool K l=false) :Calls Tryz.prog 126 #[.int .i64 K,.int .i64 l] w fun e w'=>e=.returned (.tuple #[.pointer none,.int .i64 2])∧Below w.heap.size w w':=by
 simp only [isPool,decide_eq_false_iff_not] at h;by_cases hK1:K=1
 ·subst hK1
  have hl:l<1∨16<l:=by omega
  have HC:=LH (dense_New_no · l hl);clear h hl
  go_enter Tryz.func126,Tryz.ntmps126
  go_wp2_with fail;refine(HC.out _).mono ?_;rintro e w1 ⟨rfl,hb1⟩;have B1:Below w.heap.size w w1:=Below.then_ bE hb1;have s1:=B1.size;have z1_0:w.heap.size<w1.heap.size:=by have:=hb1.size;(try simp at this);omega
  have y1_0:w.heap.size≤w1.heap.size:=Nat.le_of_lt z1_0;have c1_0:=czB hb1 (w.heap.size);have f1_0:=fzB hb1 (w.heap.size);go_wp2_with fail
  go_ret2
  exact⟨rfl,bE⟩
 ·by_cases hK2:K=2
  ·subst hK2
   have hl:l<1∨48<l:=by omega
   have HC:=LH (probe_New_no · l hl);clear h hl
   go_enter Tryz.func126,Tryz.ntmps126
   go_wp2_with fail;refine(HC.out _).mono ?_;rintro e w1 ⟨rfl,hb1⟩;have B1:Below w.heap.size w w1:=Below.then_ bE hb1;have s1:=B1.size;have z1_0:w.heap.size<w1.heap.size:=by have:=hb1.size;(try simp at this);omega
   have y1_0:w.heap.size≤w1.heap.size:=Nat.le_of_lt z1_0;have c1_0:=czB hb1 (w.heap.size);have f1_0:=fzB hb1 (w.heap.size);go_wp2_with fail
   go_ret2
   exact⟨rfl,bE⟩
  ·have e1: (K == 1) =false:=by simpa using hK1
   have e2: (K == 2) =false:=by simpa using hK2
   clear h
   go_enter Tryz.func126,Tryz.ntmps126
   go_wp2_with fail
   go_ret2
   exact⟨rfl,bE⟩
def NewPost (K l:Nat) (r:List Nd) (w:World) (e:Ending) (w':World) :Prop:=∃g F,e=.returned (.tuple #[.pointer (some ⟨g,0,none⟩),.int .i64 0])∧PoolAt w' g K l r F∧(∀b,F b→w.heap.size≤b)∧Below w.heap.size w w'
theorem Fits.nil (l:Nat) :Fits l []:=⟨⟨.nil,by simp⟩,by simp,by simp [sumR]⟩
theorem pool_New (w:World) (K l:Nat) (h:isPool K l=true) :Calls Tryz.prog 126 #[.int .i64 K,.int .i64 l] w (NewPost K l [] w):=by
 simp only [isPool,decide_eq_true_eq] at h;rcases h with ⟨h0,h1,h2⟩ | ⟨h0,h1,h2⟩
 ·obtain rfl:K=1:=by omega
  have HC:=LH (dense_New · l (by omega) (by omega))
  go_enter Tryz.func126,Tryz.ntmps126
  go_wp2_with fail;refine(HC.out _).mono ?_;rintro e w1 ⟨p,F0,rfl,hd,hF,hb1⟩;have B1:Below w.heap.size w w1:=Below.then_ bE hb1;have s1:=B1.size;have z1_0:w.heap.size<w1.heap.size:=by have:=hb1.size;(try simp at this);omega
  have y1_0:w.heap.size≤w1.heap.size:=Nat.le_of_lt z1_0;have c1_0:=czB hb1 (w.heap.size);have f1_0:=fzB hb1 (w.heap.size);have k1:=bB (heap_new_at w (.cells #[.pointer none,.pointer none] 186) _ rfl) hb1;have c1:=bC k1;have f1:=bF k1;have HD:=LH hd;have K1:=LH k1;simp only [World.size_alloc] at hF;have HF:=LH hF;clear hd k1 hF c1_0 f1_0;go_wp2_with fail
  go_ret2
  refine⟨w.heap.size,footP w.heap.size F0,rfl,⟨by omega,by omega,Fits.nil l,p,F0,rfl,.inl ⟨rfl,by omega,zH K1.out _,?_⟩⟩,?_,bE⟩
  ·exact HD.out.keep fun b hb=>Below.heap_setCell _ _ _ _ (by have:=HF.out b hb;simp only;omega)
  ·rintro b (rfl|hb)
   ·exact Nat.le_refl _
   ·have:=HF.out b hb;omega
 ·obtain rfl:K=2:=by omega
  have HC:=LH (probe_New · l (by omega) (by omega))
  go_enter Tryz.func126,Tryz.ntmps126
  go_wp2_with fail;refine(HC.out _).mono ?_;rintro e w1 ⟨p,F0,rfl,hd,hF,hb1⟩;have B1:Below w.heap.size w w1:=Below.then_ bE hb1;have s1:=B1.size;have z1_0:w.heap.size<w1.heap.size:=by have:=hb1.size;(try simp at this);omega
  have y1_0:w.heap.size≤w1.heap.size:=Nat.le_of_lt z1_0;have c1_0:=czB hb1 (w.heap.size);have f1_0:=fzB hb1 (w.heap.size);have k1:=bB (heap_new_at w (.cells #[.pointer none,.pointer none] 186) _ rfl) hb1;have c1:=bC k1;have f1:=bF k1;have HD:=LH hd;have K1:=LH k1;simp only [World.size_alloc] at hF;have HF:=LH hF;clear hd k1 hF c1_0 f1_0;go_wp2_with fail
  go_ret2
  refine⟨w.heap.size,footP w.heap.size F0,rfl,⟨by omega,by omega,Fits.nil l,p,F0,rfl,.inr ⟨rfl,zH K1.out _,?_⟩⟩,?_,bE⟩
  ·exact HD.out.keep fun b hb=>Below.heap_setCell _ _ _ _ (by have:=HF.out b hb;simp only;omega)
  ·rintro b (rfl|hb)
   ·exact Nat.le_refl _
   ·have:=HF.out b hb;omega
def rollOf (l:List Nd) :List Nd:=l.foldl (fun r x=>addR r x.1 x.2) []
theorem addR_last {r:List Nd} {id c:Int} (h: ∀x∈r,x.1<id) :addR r id c=r ++ [(id,c)]:=by
 induction r with
 |nil=>rfl
 |cons x r ih=>
  have hx:=h x (by simp);simp only [addR];rw [if_neg (by omega),if_neg (by omega),ih fun y hy=>h y (by simp [hy])]
  rfl
theorem sumR_append (a b:List Nd) :sumR (a ++ b) =sumR a+sumR b:=by
 induction a with
 |nil=>simp [sumR]
 |cons x a ih=>simp only [List.cons_append,sumR,ih];omega
theorem addR_take {r:List Nd} (h:Roll r) {k:Nat} (hk:k<r.length) :addR (r.take k) r[k].1 r[k].2=r.take (k+1):=by
 rw [List.take_succ_eq_append_getElem hk,addR_last];intro x hx;obtain⟨i,hi,rfl⟩:=List.mem_take_iff_getElem.1 hx;exact List.pairwise_iff_getElem.1 h.1 i k (by omega) hk (by omega)
theorem sumR_take_succ {r:List Nd} {k:Nat} (hk:k<r.length) :sumR (r.take (k+1)) =sumR (r.take k) +r[k].2:=by
 rw [List.take_succ_eq_append_getElem hk,sumR_append];simp [sumR]
theorem sumR_take_le {r:List Nd} (h:Roll r) (k:Nat) :sumR (r.take k)≤sumR r:=by
 have h1:sumR r=sumR (r.take k) +sumR (r.drop k):=by rw [←sumR_append,List.take_append_drop]
 have h2:Roll (r.drop k):=⟨h.1.sublist (List.drop_sublist k r),fun x hx=>h.2 x (List.mem_of_mem_drop hx)⟩;have:=sumR_nonneg h2;omega
def PutPost (w:World) (g K l:Nat) (r:List Nd) (F:Nat→Prop) (e:Ending) (w':World) :Prop:=∃F',e=.returned (.tuple #[])∧PoolAt w' g K l r F'∧Turn F w w'∧Grow w F F'
theorem pool_put (w:World) (g K l:Nat) (F:Nat→Prop) (A:Option Addr) (cap:Nat) (r:List Nd) (h:PoolAt w g K l [] F) (hf:Fits l r) (hS:Sl w w.heap.size encN A r) (hFA: ∀b o,A=some ⟨b,o,none⟩→r≠ []→¬F b) (hn:r.length<67108864) :
 Calls Tryz.prog 223 #[.pointer (some ⟨g,0,none⟩),.slice A r.length cap] w (PutPost w g K l r F):=by
 have HP:=LH h;have HS:=LH hS;have HA:=LH hFA;clear h hS hFA
 go_enter Tryz.func223,Tryz.ntmps223
 go_wp2_with fail
 go_loopw [8] (fun i wr=>∃(k:Nat) (F':Nat→Prop),k≤r.length∧i=.int .i64 k∧PoolAt wr g K l (r.take k) F'∧Turn F w wr∧Grow w F F') (fun i _=>r.length - (intOf i).toNat)
 case atStart=>exact⟨0,F,Nat.zero_le _,rfl,HP.out,Turn.refl _ _,Grow.refl⟩
 case round=>
  obtain⟨k,F',hk,rfl,hP,hT,hG⟩:=hrel;have HK:=LH hP;have HT:=LH hT;have HG:=LH hG;have hs:=hT.size;clear hP hT hG;by_cases hlt:k<r.length
  ·obtain⟨b,off,rfl,hb,hc⟩:=HS.out.at_ hlt
   have nF:=HA.out b off rfl (fun h=>by rw [h] at hlt;simp at hlt);have d0:=(HT.out.cell (o:=off+k*2+0) hb nF).trans (hc 0 (.int .i64 r[k].1) rfl);have d1:=(HT.out.cell (o:=off+k*2+1) hb nF).trans (hc 1 (.int .i64 r[k].2) rfl);simp only [Nat.add_zero] at d0;have hx:=hf.roll.2 _ (List.getElem_mem hlt);have hxl:=hf.lt _ (List.getElem_mem hlt);have e1:=sumR_take_succ hlt;have e2:=sumR_take_le hf.roll (k+1);have e3:=hf.sum;have e4:=addR_take hf.roll hlt;obtain⟨x,hxe⟩ : ∃x,x=r[k]:=⟨_,rfl⟩;rw [←hxe] at d0 d1 hx hxl e1 e4;obtain⟨n,hn1⟩:=Int.eq_ofNat_of_zero_le (show 0≤x.1 by omega);have hlen: (r.take k).length≤r.length:=List.length_take_le' _ _;rw [hn1] at d0 hx hxl e4
   have HC:Hid (∀W,PoolAt W g K l (r.take k) F'→Calls Tryz.prog 131 #[.pointer (some ⟨g,0,none⟩),.int .i64 (n:Nat),.int .i64 x.2] W (PAddPost W g K l (r.take (k+1)) F' (.int .i64 0))):=LH fun W hW=>by
    have:=pool_Add W g K l (r.take k) F' hW n (by omega) (by exact_mod_cast hxl) x.2 (by omega) (by omega) (by omega)
    rwa [e4] at this
   clear hc e1 e2 e3 e4 hxe hn1;go_wp2_with fail;refine(HC.out _ (HK.out.below ((Below.refl _ _).alloc (Nat.le_refl _) _))).mono ?_;rintro e w2 ⟨F2,rfl,hP2,hT2,hG2⟩;have KP2:=LH hP2;have HT2:Hid (Turn F w w2):=LH ((HT.out.alloc (.cells #[.int .i64 (n:Nat),.int .i64 x.2] 154)).trans hT2 HG.out);have HG2:Hid (Grow w F F2):=LH (HG.out.trans hG2 (Nat.le_trans hs (by simp)));clear hP2 hT2 hG2;go_wp2_with fail;go_roundw
   case rel=>exact⟨k+1,F2,by omega,by go_num,KP2.out,HT2.out,HG2.out⟩
   case measure=>simp [intOf];omega
  ·obtain rfl:k=r.length:=by omega
   rw [List.take_length] at HK;go_wp2_with fail
   go_end0
   exact⟨F',rfl,HK.out,HT.out,HG.out⟩
theorem totalFrom_ok {n:Int} {l:List Nd} (h: (totalFrom n l).2=true) (hn:0≤n) (hm:n≤most) : (totalFrom n l).1=n+sumR l∧n+sumR l≤most:=by
 induction l generalizing n with
 |nil=>simp [totalFrom,sumR];exact hm
 |cons x l ih=>
  simp only [totalFrom] at h⊢
  split at h
  ·rename_i hc
   rw [if_pos hc];have h1:=addOf_le n x.2 hc.1;have h2:=ih h h1.1 hc.2
   have h3: (addOf n x.2).1=n+x.2:=by
    have:=hc.1;unfold addOf at this⊢
    split
    ·rfl
    ·rename_i hn;rw [if_neg hn] at this;cases this
   simp only [sumR];omega
  ·simp at h
theorem rises_roll {l last:Int} {r:List Nd} (h:risesFrom l last r=true) : (∀x∈r,last<x.1∧isNode l x.1=true∧1≤x.2)∧r.Pairwise (fun a b=>a.1<b.1):=by
 induction r generalizing last with
 |nil=>exact⟨by simp,.nil⟩
 |cons x r ih=>
  simp only [risesFrom,Bool.and_eq_true,decide_eq_true_eq] at h;obtain⟨⟨⟨h1,h2⟩,h3⟩,h4⟩:=h;obtain⟨i1,i2⟩:=ih h4;refine⟨fun y hy=> ?_,List.pairwise_cons.2 ⟨fun y hy=>(i1 y hy).1,i2⟩⟩;rcases List.mem_cons.1 hy with rfl|hy
  ·exact⟨h1,h2,h3⟩
  ·have:=i1 y hy;exact⟨by omega,this.2⟩
theorem isNode_lt {l:Nat} {id:Int} (h:isNode l id=true) :1≤id∧id<2*2^l:=by
 simp only [isNode,decide_eq_true_eq,Int.toNat_natCast] at h;exact h.2
theorem right_fits {l:Nat} {r:List Nd} (h:rightOf l r=true) :Fits l r∧(totalOf r).1=sumR r:=by
 simp only [rightOf,Bool.and_eq_true] at h;obtain⟨⟨h1,h2⟩,_⟩:=h;obtain⟨i1,i2⟩:=rises_roll h1;have h3:=totalFrom_ok h2 (by omega) (by decide);refine⟨⟨⟨i2,fun x hx=>⟨(isNode_lt (i1 x hx).2.1).1,(i1 x hx).2.2⟩⟩,fun x hx=>(isNode_lt (i1 x hx).2.1).2,by unfold most at h3;omega⟩,?_⟩;unfold totalOf;rw [h3.1];omega
theorem pool_Load (w:World) (K l:Nat) (A:Option Addr) (cap:Nat) (r:List Nd) (h:isPool K l=true) (hR:rightOf l r=true) (hS:Sl w w.heap.size encN A r) (hI:ints r) (hn:r.length<67108864) :
 Calls Tryz.prog 192 #[.int .i64 K,.int .i64 l,.slice A r.length cap] w (NewPost K l r w):=by
 have HC:=LH (pool_New · K l h);have HR:=LH (roll_Right · l A cap r · hI (by unfold maxLen;omega));have HF:=LH hR;have HS:=LH hS;have HT:=LH (right_fits hR).1;clear h hR hS
 go_enter Tryz.func192,Tryz.ntmps192
 go_wp2_with fail;refine(HC.out _).mono ?_;rintro e w1 ⟨g,F,rfl,hP,hF,hb1⟩;have B1:Below w.heap.size w w1:=Below.then_ bE hb1;have s1:=B1.size;have S1:=LH (HS.out.keep hb1.size fun p hp=>hb1.cell hp);have KP:=LH hP;have KF:=LH hF;clear hP hF;go_wp2_with fail;refine(HR.out _ S1.out).mono ?_;rintro e w2 ⟨rfl,hb2⟩;have B2:Below w.heap.size w w2:=Below.then_ bE hb2;have s2:=B2.size;rw [HF.out];have KP2:=LH (KP.out.below hb2);have S2:=LH (S1.out.keep hb2.size fun p hp=>hb2.cell hp)
 have HA:Hid (∀b o,A=some ⟨b,o,none⟩→r≠ []→b<w.heap.size):=LH fun b o hA hr=>by
  rcases HS.out with h| ⟨b',o',hA',hb,_⟩
  ·exact absurd h hr
  ·rw [hA] at hA';cases hA';exact hb
 go_wp2_with fail;refine(pool_put _ g K l F A cap r KP2.out HT.out S2.out (fun b o hA hr0 hf=>by have h1:=HA.out b o hA hr0;have h2:=KF.out b hf;omega) hn).mono ?_;rintro e w3 ⟨F3,rfl,hP3,hT3,hG3⟩
 have HP:Hid (NewPost K l r w (.returned (.tuple #[.pointer (some ⟨g,0,none⟩),.int .i64 0])) w3):=LH ⟨g,F3,rfl,hP3,fun b hb=>by
  rcases hG3 b hb with h|h
  ·exact KF.out b h
  ·have:=B2.size;omega,B2.trans (hT3.below KF.out (B2.size))⟩
 clear hP3 hT3 hG3;go_wp2_with fail
 go_ret2
 exact HP.out
section
attribute [local go_sem] Oper.semAt_some
def KeepN (A B:World) :Prop:=A.heap.size≤B.heap.size∧∀(b:Nat) (cs:Array Value) (fr:Nat×Nat),A.heap[b]? =some (.cells cs 154 fr)→B.heap[b]? =some (.cells cs 154 fr)
theorem keepN_t {A B C:World} (h:KeepN A B) (k:KeepN B C) :KeepN A C:=⟨Nat.le_trans h.1 k.1,fun b cs fr hb=>k.2 b cs fr (h.2 b cs fr hb)⟩
theorem keepN_b (W:World) (l:Nat) (o o':Obj) (h:W.heap[l]? =some o) (hc:o.isCells=false) :KeepN W (W.putObj l o'):=by
 refine⟨(grownBy_putObj' W l o').size,fun b cs fr hb=> ?_⟩
 have hne:b≠l:=by
  rintro rfl;rw [h] at hb
  cases hb
  simp [Obj.isCells] at hc
 rw [World.putObj_heap_other hne];exact hb
theorem KeepN.of_below {A B:World} (h:Below A.heap.size A B) :KeepN A B:=⟨h.size,fun b cs fr hb=>(h.block b (lB hb)).trans hb⟩
theorem KeepN.own {base:Nat} {A B:World} {v:Value} {l:List Nd} (h:KeepN A B) (ho:Own A base 154 encN v l) :Own B base 154 encN v l:=
 ho.of_block fun g hv=>by
  rcases ho with ⟨rfl,_⟩ | ⟨g1,o1,c1,u1,rfl,_,hh1,_⟩
  ·cases hv
  ·have:g1=g:=by simpa [Value.ownBlock] using hv
   subst this;rw [hh1];exact h.2 _ _ _ hh1
theorem pool_Each (w:World) (g:Nat) :Calls Tryz.prog 224 #[.pointer (some ⟨g,0,none⟩)] w fun e w'=>e=.returned (.func (.func 239) #[] #[.pointer (some ⟨w.heap.size,0,none⟩)])∧w.alloc (.cells #[.pointer (some ⟨g,0,none⟩)] 136) =w':=by
 go_enter Tryz.func224,Tryz.ntmps224
 go_wp2_with fail;go_ret;exact⟨rfl,rfl⟩
theorem each_stops (n Bs g K l:Nat) (r:List Nd) (F0:Nat→Prop) (w:World) (hn:1≤n) (hBs:w.heap[Bs]? =some (.cells #[.pointer (some ⟨g,0,none⟩)] 136 (0,0))) (hP:PoolAt w g K l r F0) (hr:r.length≤67108864) :
 SeqStopsK Fence.wide n Tryz.prog 239 #[.pointer (some ⟨Bs,0,none⟩)] (fun x:Nd=> #[Value.int .i64 x.1,Value.int .i64 x.2]) KeepN (fun ys=>ys=r) (fun pre=>pre <+: r) r.length w:=fun q J Jx W hW hJ hJx hY h0=>by
 have kb:=bB hBs hW;have HP:=LH (hP.below hW);have cb:=bC kb;have HY:=LH hY;have HJ:=LH hJ;clear kb hBs hP hY hJ;refine callsIn_of_wp Tryz.func239 rfl trivial ?_ rfl;simp only [Tryz.ntmps239,List.size_toArray,List.length_cons,List.length_nil,Nat.reduceAdd,Nat.reduceSub,Array.replicate_succ,Array.replicate_zero,List.push_toArray,List.append_toArray,List.nil_append,List.cons_append]
 gi_wp2_with fail
 refine⟨trivial,?_⟩;refine(callsIn_wide.2 (pool_Snap _ g K l r F0 HP.out hr)).mono ?_;rintro e w1 ⟨v,rfl,ho,hb⟩;have HO:=LH ho;have J0:Hid (J [] w1):=LH (HJ.out _ _ _ none h0 (grownBy_of_below hb none) (fun _ h=>by cases h));have hs:=hb.size;obtain⟨A,cap,rfl,_⟩:=ho.form;clear ho hb h0
 gi_wp2_with fail
 gi_loopw [8] (fun i wr=>∃k:Nat,k≤r.length∧i=.int .i64 k∧Own wr W.heap.size 154 encN (.slice A r.length cap) r∧J (r.take k) wr∧W.heap.size≤wr.heap.size) (fun i _=>r.length - (intOf i).toNat)
 case atStart=>exact⟨0,Nat.zero_le _,rfl,HO.out,J0.out,hs⟩
 case round=>
  obtain⟨k,hk,rfl,hown,hJk,hsz⟩:=hrel;have KO:=LH hown;have KJ:=LH hJk;clear hown hJk;by_cases hlt:k<r.length
  ·obtain⟨b,off,rfl,hT,hc⟩:=KO.out.slT.at_ hlt
   have d0:=hc 0 (.int .i64 r[k].1) rfl;have d1:=hc 1 (.int .i64 r[k].2) rfl;simp only [Nat.add_zero] at d0;have hts:=List.take_succ_eq_append_getElem hlt;obtain⟨x,hx⟩ : ∃x,x=r[k]:=⟨_,rfl⟩;rw [←hx] at d0 d1 hts;have HS:=LH hts;have hA:Below wr.heap.size wr (wr.alloc (.cells #[.int .i64 x.1,.int .i64 x.2] 154)):=(Below.refl _ _).alloc (Nat.le_refl _) _;have hJ2:=HJ.out _ _ _ none KJ.out (grownBy_of_below hA none) (fun _ h=>by cases h);obtain⟨fn,tmps,assign,body,hy,hR⟩:=HY.out (r.take k) x _ hJ2 (by rw [List.length_take];omega);have KA:=LH (KO.out.below hA);clear hc hts hx hJ2 hA hT
   gi_wp2_with fail
   refine hR.mono ?_;rintro e w3 (⟨rfl,hJ3,hk3⟩ | ⟨rfl,hJx3⟩)
   ·have K3:=LH (hk3.own KA.out)
    have z3:=hk3.1;rw [←HS.out] at hJ3;have J3:=LH hJ3;clear hJ3 hk3
    gi_wp2_with fail
    go_roundw
    case rel=>exact⟨k+1,by omega,by go_num,K3.out,J3.out,by simp at z3;omega⟩
    case measure=>simp [intOf];omega
   ·rw [←HS.out] at hJx3
    have J3:=LH hJx3;clear hJx3
    gi_wp2_with fail
    refine bR (results_none rfl _ _ _) rfl ?_;exact⟨⟨_,rfl⟩,.inr ⟨_,List.take_prefix _ _,J3.out⟩⟩
  ·obtain rfl:k=r.length:=by omega
   rw [List.take_length] at KJ
   gi_wp2_with fail
   go_end0
   exact⟨⟨_,rfl⟩,.inl ⟨_,rfl,KJ.out⟩⟩
end
section
attribute [local go_sem] Oper.semAt_some
theorem fold_Cap (w:World) (n k:Int) (hn0:0≤n) (hn:n≤9223372036854775807) (hk:1≤k) (hk2:k≤9223372036854775807) :Calls Tryz.prog 207 #[.int .i64 n,.int .i64 k] w fun e w'=>e=.returned (.int .i64 (n / k))∧Below w.heap.size w w':=by
 have HD:=LH (show divOf n k= (n / k,true) by simp only [divOf];rw [if_neg (by omega)])
 go_enter Tryz.func207,Tryz.ntmps207
 go_wp2_with fail;refine(reckon_Div _ n k hn hk2).mono ?_;rintro e w1 ⟨rfl,hb1⟩;have B1:Below w.heap.size w w1:=Below.then_ bE hb1;have s1:=B1.size;rw [HD.out];unfold okV;go_wp2_with fail;go_ret;exact⟨rfl,bE⟩
theorem press_may (w:World) (k:Int) (h1:1≤k) (h2:k≤1048576) :Calls Tryz.prog 206 #[.int .i64 k] w fun e w'=>e=.returned (.bool true)∧Below w.heap.size w w':=by
 have h3:decide (k≤1048576) =true:=by simpa using h2
 go_enter Tryz.func206,Tryz.ntmps206
 go_wp2_with fail;go_ret;exact⟨ret_bool (by simp [h2]),bE⟩
theorem press_wrong (w:World) (g:Nat) (k:Int) (h1:1≤k) (h2:k≤1048576) :Calls Tryz.prog 172 #[.pointer (some ⟨g,0,none⟩),.int .i64 k] w fun e w'=>e=.returned (.int .i64 0)∧Below w.heap.size w w':=by
 go_enter Tryz.func172,Tryz.ntmps172
 go_wp2_with fail;refine(press_may _ k h1 h2).mono ?_;rintro e w1 ⟨rfl,hb1⟩;have B1:Below w.heap.size w w1:=Below.then_ bE hb1;have s1:=B1.size;go_wp2_with fail;go_ret;exact⟨rfl,bE⟩
def heavy (l:Int) (most:Int) (x:Nd) :Bool:=(kidsOf l x.1).2.2 && decide (most<x.2)
def lightOf (l:Int) (r:List Nd) (k:Int) :Bool:= !r.any (heavy l (sumR r / k))
theorem lt_of_cell {W:World} {b o:Nat} {v:Value} (h:W.cell? ⟨b,o,none⟩ =some v) :b<W.heap.size:=by
 rcases Nat.lt_or_ge b W.heap.size with h'|h'
 ·exact h'
 ·simp [World.cell?,Array.getElem?_eq_none h'] at h
theorem press_Light (w:World) (g K l:Nat) (r:List Nd) (F:Nat→Prop) (k:Int) (hP:PoolAt w g K l r F) (h1:1≤k) (h2:k≤1048576) (hr:r.length≤67108864) :
 Calls Tryz.prog 193 #[.pointer (some ⟨g,0,none⟩),.int .i64 k] w fun e w'=>e=.returned (.bool (lightOf l r k))∧Below w.heap.size w w':=by
 have hs0:=sumR_nonneg hP.fits.roll;have hs1:=hP.fits.sum;have HP:=LH hP;clear hP;refine(callsIn_wide (n:=3)).1 ?_;refine callsIn_of_wp_marks Tryz.func193 rfl trivial ?_ rfl;simp only [Tryz.ntmps193,List.size_toArray,List.length_cons,List.length_nil,Nat.reduceAdd,Nat.reduceSub,Array.replicate_succ,Array.replicate_zero,List.push_toArray,List.append_toArray,List.nil_append,List.cons_append]
 gi_wp2_with fail
 refine⟨trivial,?_⟩;refine(callsIn_wide.2 (press_wrong _ g k h1 h2)).mono ?_;rintro e w1 ⟨rfl,hb1⟩;have B1:Below w.heap.size w w1:=Below.then_ bE hb1;have s1:=B1.size;have z1_0:w.heap.size<w1.heap.size:=by have:=hb1.size;(try simp at this);omega
 have y1_0:w.heap.size≤w1.heap.size:=Nat.le_of_lt z1_0;have c1_0:=czB hb1 (w.heap.size);have f1_0:=fzB hb1 (w.heap.size);have z1_1:w.heap.size+1<w1.heap.size:=by have:=hb1.size;(try simp at this);omega
 have y1_1:w.heap.size+1≤w1.heap.size:=Nat.le_of_lt z1_1;have c1_1:=czB hb1 (w.heap.size+1);have f1_1:=fzB hb1 (w.heap.size+1);have P1:=LH (HP.out.below B1)
 gi_wp2_with fail
 refine⟨trivial,?_⟩;refine(callsIn_wide.2 (pool_Total _ g K l r F P1.out)).mono ?_;rintro e w2 ⟨rfl,hb2⟩;have B2:Below w.heap.size w w2:=Below.then_ bE hb2;have s2:=B2.size;have z2_0:w.heap.size<w2.heap.size:=by have:=hb2.size;(try simp at this);omega
 have y2_0:w.heap.size≤w2.heap.size:=Nat.le_of_lt z2_0;have c2_0:=czB hb2 (w.heap.size);have f2_0:=fzB hb2 (w.heap.size);have z2_1:w.heap.size+1<w2.heap.size:=by have:=hb2.size;(try simp at this);omega
 have y2_1:w.heap.size+1≤w2.heap.size:=Nat.le_of_lt z2_1;have c2_1:=czB hb2 (w.heap.size+1);have f2_1:=fzB hb2 (w.heap.size+1);have P2:=LH (HP.out.below B2)
 gi_wp2_with fail
 refine⟨trivial,?_⟩;refine(callsIn_wide.2 (fold_Cap _ (sumR r) k hs0 (by omega) h1 (by omega))).mono ?_;rintro e w3 ⟨rfl,hb3⟩;have B3:Below w.heap.size w w3:=Below.then_ bE hb3;have s3:=B3.size;have z3_0:w.heap.size<w3.heap.size:=by have:=hb3.size;(try simp at this);omega
 have y3_0:w.heap.size≤w3.heap.size:=Nat.le_of_lt z3_0;have c3_0:=czB hb3 (w.heap.size);have f3_0:=fzB hb3 (w.heap.size);have z3_1:w.heap.size+1<w3.heap.size:=by have:=hb3.size;(try simp at this);omega
 have y3_1:w.heap.size+1≤w3.heap.size:=Nat.le_of_lt z3_1;have c3_1:=czB hb3 (w.heap.size+1);have f3_1:=fzB hb3 (w.heap.size+1);have P3:=LH (HP.out.below B3)
 gi_wp2_with fail
 refine⟨trivial,?_⟩;refine(callsIn_wide.2 (pool_Each _ g)).mono ?_;rintro e w4 ⟨rfl,rfl⟩
 gi_wp2_with fail
 have hB0:Below w.heap.size w ((w3.alloc (.cells #[.int .i64 (sumR r / k)] 3)).alloc (.cells #[.pointer (some ⟨g,0,none⟩)] 136)):=bE;have kb:=heap_new_at (w3.alloc (.cells #[.int .i64 (sumR r / k)] 3)) (.cells #[.pointer (some ⟨g,0,none⟩)] 136) (w3.heap.size+1) (by simp);have x0: ((w3.alloc (.cells #[.int .i64 (sumR r / k)] 3)).alloc (.cells #[.pointer (some ⟨g,0,none⟩)] 136)).cell? ⟨w.heap.size,0,none⟩ =some (.pointer (some ⟨g,0,none⟩)):=by go_simp
 have x1: ((w3.alloc (.cells #[.int .i64 (sumR r / k)] 3)).alloc (.cells #[.pointer (some ⟨g,0,none⟩)] 136)).cell? ⟨w.heap.size+1,0,none⟩ =some (.bool false):=by go_simp
 have x2: ((w3.alloc (.cells #[.int .i64 (sumR r / k)] 3)).alloc (.cells #[.pointer (some ⟨g,0,none⟩)] 136)).cell? ⟨w3.heap.size,0,none⟩ =some (.int .i64 (sumR r / k)):=by go_simp
 have x3: ((w3.alloc (.cells #[.int .i64 (sumR r / k)] 3)).alloc (.cells #[.pointer (some ⟨g,0,none⟩)] 136)).frozen? ⟨w.heap.size+1,0,none⟩ =false:=by go_simp
 have zz:w.heap.size+1<w3.heap.size:=z3_1;generalize (w3.alloc (.cells #[.int .i64 (sumR r / k)] 3)).alloc (.cells #[.pointer (some ⟨g,0,none⟩)] 136) =W0 at hB0 kb x0 x1 x2 x3⊢;clear P1 P2 P3 hb1 hb2 hb3 B1 B2 B3 s1 s2 s3 z1_0 y1_0 c1_0 f1_0 z1_1 y1_1 c1_1 f1_1 z2_0 y2_0 c2_0 f2_0 z2_1 y2_1 c2_1 f2_1 z3_0 y3_0 c3_0 f3_0 z3_1 y3_1 c3_1 f3_1;have zs:=hB0.size
 refine wpIn_rangeFunc_ownG rfl (by decide) (gf:=239) (lb:= #[.pointer (some ⟨w3.heap.size+1,0,none⟩)]) rfl trivial (enters_of Tryz.func239 (by kernel_rfl) rfl)
  (each_stops (3 - 1) (w3.heap.size+1) g K l r F W0 (by decide) kb (HP.out.below hB0) hr) keepN_t (fun W q o o' _ h hc _=>keepN_b W q o o' h hc) (Below.refl _ _) (fun _=>rfl)
  (fun pre W=>((pre.any (heavy l (sumR r / k)) =false)∧W.cell? ⟨w.heap.size,0,none⟩ =some (.pointer (some ⟨g,0,none⟩))∧W.cell? ⟨w.heap.size+1,0,none⟩ =some (.bool false)∧W.cell? ⟨w3.heap.size,0,none⟩ =some (.int .i64 (sumR r / k))∧W.frozen? ⟨w.heap.size+1,0,none⟩ =false)∧Below w.heap.size w W)
  (fun c pre W=>(c=.ret∧pre.any (heavy l (sumR r / k)) =true∧W.cell? ⟨w.heap.size+1,0,none⟩ =some (.bool false))∧Below w.heap.size w W)
  (OwnFrom.and (Own.from (fun s A B row hs hg hr=>⟨hs.1,cell_kept hs.2.1 hg hr,cell_kept hs.2.2.1 hg hr,cell_kept hs.2.2.2.1 hg hr,(frozen_kept hs.2.2.1 hg hr).trans hs.2.2.2.2⟩) _) (ownFrom_below (Nat.le_refl _) zs))
  (fun c=>OwnFrom.and (Own.from (fun s A B row hs hg hr=>⟨hs.1,hs.2.1,cell_kept hs.2.2 hg hr⟩) _) (ownFrom_below (Nat.le_refl _) zs))
  ⟨⟨rfl,x0,x1,x2,x3⟩,hB0⟩
  (fun x=>{tmps:= #[.pointer (some ⟨g,0,none⟩),.int .i64 k,.pointer (some ⟨w.heap.size,0,none⟩),undef,.pointer (some ⟨w.heap.size+1,0,none⟩),.pointer (some ⟨w3.heap.size,0,none⟩),.int .i64 x.1,.int .i64 x.2,undef,undef,undef,
    .pointer (some ⟨g,0,none⟩),.int .i64 k,.int .i64 0,.bool false,.pointer (some ⟨g,0,none⟩),.int .i64 (sumR r),.int .i64 k,.int .i64 (sumR r / k),.pointer (some ⟨g,0,none⟩),.func (.func 239) #[] #[.pointer (some ⟨w3.heap.size+1,0,none⟩)],.int .i64 x.1,.int .i64 x.2,
    undef,undef,undef,undef,undef,undef,undef,undef,undef,undef,undef,undef,undef,undef],defers:= []}) ?assign ?body ?done ?stop
 case assign=>
  intro q x W K hK
  gi_wp2
  exact hK
 case body=>
  rintro q pre x W ⟨⟨hp,c0,c1,c2,f1⟩,hB⟩ _;have HPW:=LH (HP.out.below hB);have hk:=LH (twig_Kids · l x.1);have he:Hid (heavy l (sumR r / k) x= ((kidsOf l x.1).2.2 && decide (sumR r / k<x.2))):=LH rfl;have HPre:=LH hp;have zW:=hB.size;have zc0:=lt_of_cell c0;have zc1:=lt_of_cell c1;have HB:=LH hB;clear hp hB;generalize kidsOf l x.1=t at hk he;obtain⟨t1,t2,t3⟩:=t
  gi_wp2_with fail
  refine⟨trivial,?_⟩;refine(CallsIn.inRound q (callsIn_wide.2 (pool_L _ g K l r F HPW.out))).mono ?_;rintro e w5 ⟨rfl,hb5⟩
  gi_wp2_with fail
  refine⟨trivial,?_⟩;refine(CallsIn.inRound q (callsIn_wide.2 (hk.out _))).mono ?_;rintro e w6 ⟨rfl,hb6⟩;have hb:=hb5.trans (hb6.mono hb5.size);have hbw:=HB.out.trans (hb.mono zW);have d1:=(hb.cell (p:=⟨w.heap.size+1,0,none⟩) (by simp only;omega)).trans c1;have d0:=(hb.cell (p:=⟨w.heap.size,0,none⟩) (by simp only;omega)).trans c0;have z3:=lt_of_cell c2;have d2:=(hb.cell (p:=⟨w3.heap.size,0,none⟩) z3).trans c2;have g1:=(hb.frozen (p:=⟨w.heap.size+1,0,none⟩) (by simp only;omega)).trans f1;have KW:Hid (KeepsFrom W0.heap.size W w6):=LH ((KeepsOthers.of_grownBy (grownBy_of_below hb none) (fun _ _ h=>by cases h)).from _);have KN:=LH (KeepN.of_below hb);have HBW:=LH hbw;clear hb5 hb6 hb hbw c0 c1 c2 f1;unfold endsV
  cases t3
  ·gi_wp2_with fail
   exact⟨KW.out,KN.out,⟨by rw [List.any_append,HPre.out];simp [he.out],d0,d1,d2,g1⟩,HBW.out⟩
  ·by_cases hx:sumR r / k<x.2
   ·gi_wp2_with fail
    exact⟨KW.out.trans ((KeepsOthers.setCell _ _ _).from _),⟨rfl,by rw [List.any_append];simp [he.out,hx],World.cell?_setCell_same' _ _ _ (by rw [d1];rfl)⟩,HBW.out.setCell (p:=⟨w.heap.size+1,0,none⟩) (by simp only;omega) _⟩
   ·gi_wp2_with fail
    exact⟨KW.out,KN.out,⟨by rw [List.any_append,HPre.out];simp [he.out,hx],d0,d1,d2,g1⟩,HBW.out⟩
 case done=>
  rintro D ys W hD hys ⟨⟨hp,c0,c1,c2,f1⟩,hB⟩ hK;have hys':ys=r:=hys;rw [hys'] at hp;clear hys hys';have zc1:=lt_of_cell c1;have hl:lightOf l r k=true:=by unfold lightOf;rw [hp];rfl
  have zW:=hB.size
  gi_wp2
  have hK':=(KeepsOthers.setCell W ⟨w.heap.size+1,0,none⟩ (.bool true)).same D _ hK rfl;refine⟨by simp,.inl ⟨_,_,rfl,run_takeDeferred hK',?_⟩⟩;have hc5:=cell_kept (World.cell?_setCell_same' W ⟨w.heap.size+1,0,none⟩ (.bool true) (by rw [c1];rfl)) (grownBy_putObj' _ D (.deferred none)) (fun r e=>by cases e;exact⟨_,hK',rfl⟩);refine⟨.bool true,?_,by rw [hl],(hB.setCell (p:=⟨w.heap.size+1,0,none⟩) (by simp only;omega) _).trans (belowK_b (w:=w) (Nat.le_refl _) _ D _ _ (by omega) hK' rfl rfl)⟩;simp [results,Tryz.f193,go_sem,hc5]
 case stop=>
  rintro D c pre W hD hpre ⟨⟨rfl,hp,c1⟩,hB⟩ hK
  have hl:lightOf l r k=false:=by
   unfold lightOf;obtain⟨x,hx,hh⟩:=List.any_eq_true.1 hp;rw [List.any_eq_true.2 ⟨x,hpre.subset hx,hh⟩];rfl
  gi_wp2
  refine⟨by simp,.inl ⟨_,_,rfl,run_takeDeferred hK,?_⟩⟩;have hc5:=cell_kept c1 (grownBy_putObj' _ D (.deferred none)) (fun r e=>by cases e;exact⟨_,hK,rfl⟩);refine⟨.bool false,?_,by rw [hl],hB.trans (belowK_b (w:=w) (Nat.le_refl _) W D _ _ (by omega) hK rfl rfl)⟩;simp [results,Tryz.f193,go_sem,hc5]
end
section
open Go.RowKit
def headPost (P:Program) (ops:Array Oper) (Q:Exit→Act→World→Prop) (l:List Oper) :Exit→Act→World→Prop
 | .normal,a,w=>wpList P ops Q l a w
 | .panic c,a,w=>Q (.panic c) a w
 | .exit i,a,w=>Q (.exit i) a w
 | .goto i,a,w=>Q (.goto i) a w
 | .ret,a,w=>Q .ret a w
 | .outgrown,a,w=>Q .outgrown a w
def tailB (l:List Oper) (n:Nat) :Bool:=
 decide (n<l.length) &&
 ((List.range n).all fun i=>match l[i]? with
   |some o=>o.after.all (fun e=> !Region.binds .any e || decide (e.on<i)) && (match o.guard with|some (j,_)=>decide (j<n) |none=>true)
   |none=>false) &&
 ((List.range n).all fun i=>Region.waitsFor .any l.toArray n i || (List.range n).any fun j=>decide (i<j) && Region.waitsFor .any l.toArray j i) &&
 ((List.range l.length).all fun t=>decide (t≤n) || Region.waitsFor .any l.toArray t (t - 1)) &&
 Region.seqB .any l.toArray (l.length - n) n (Array.replicate n true ++ Array.replicate (l.length - n) false) &&
 Region.lexB .any (l.take n).toArray
section
variable {P:Program} {Q:Exit→Act→World→Prop} {l:List Oper} {n:Nat}
theorem upon_head {o:Oper} {a:Act} {K:Act→World→Prop} {r:Result Next} {ops:Array Oper} {lt:List Oper} (h:o.upon P a K (headPost P ops Q lt) r) :o.upon P a K Q r:=by
 cases r with
 |ok x w=>
  cases x with
  |enter f args=>
   refine Calls.mono h fun e w' he=> ?_
   cases e with
   |returned v=>exact he
   |panicked c=>exact he
   |outgrown=>obtain⟨a',w'',h'⟩:=he;exact⟨a',w'',h'⟩
  |_=>exact h
 |halt x w=>cases x <;> exact h
theorem any_more {ops:Array Oper} : ∀(g m:Nat) (listed:Array Bool) (a:Act) (w:World),wpAny P .any ops Q g listed a w→wpAny P .any ops Q (g+m) listed a w
 |0,0,_,_,_,h=>h
 |0,m+1,listed,a,w,h=>by
  rw [Nat.zero_add];exact⟨fun _=>h.2,fun i hi=>by rw [h.1] at hi;cases hi⟩
 |g+1,m,listed,a,w,h=>by
  rw [show g+1+m= (g+m) +1 by omega];exact⟨h.1,fun i hi=>wpOp_mono (fun a' w' h'=>any_more g m _ a' w' h') (h.2 i hi)⟩
structure HeadRel (l:List Oper) (n:Nat) (lh listed:Array Bool) :Prop where
 sh:lh.size=n
 sl:listed.size=l.length
 nl:n≤l.length
 same: ∀i,i<n→∀d,listed.getD i d=lh.getD i d
 tail: ∀t,n≤t→t<l.length→listed.getD t true=false
 down: ∀j o,j<n→l[j]? =some o→lh.getD j false=true→∀e∈o.after,Region.binds .any e=true→lh.getD e.on false=true
theorem HeadRel.set {lh listed:Array Bool} (h:HeadRel l n lh listed) {i:Nat} (hi:i<n) (hd: ∀o,l[i]? =some o→∀e∈o.after,Region.binds .any e=true→lh.getD e.on false=true) :HeadRel l n (lh.setIfInBounds i true) (listed.setIfInBounds i true):=by
 refine⟨by simp [h.sh],by simp [h.sl],h.nl,fun j hj d=> ?_,fun t ht ht'=>by rw [getD_set_ne true (by omega)];exact h.tail t ht ht',fun j o hj ho hlj e he hb=> ?_⟩
 case refine_2=>
  have up: ∀q,lh.getD q false=true→(lh.setIfInBounds i true).getD q false=true:=fun q hq=>by
   by_cases hiq:i=q
   ·subst hiq
    have:i<lh.size:=by rw [h.sh];exact hi
    simp [this]
   ·rw [getD_set_ne false hiq];exact hq
  by_cases hij:i=j
  ·subst hij
   exact up _ (hd o ho e he hb)
  ·rw [getD_set_ne false hij] at hlj
   exact up _ (h.down j o hj ho hlj e he hb)
 by_cases hij:i=j
 ·subst hij
  have h1:i<lh.size:=by rw [h.sh];exact hi
  have h2:i<listed.size:=by rw [h.sl];have:=h.nl;omega
  simp [h1,h2]
 ·rw [getD_set_ne d hij,getD_set_ne d hij]
  exact h.same j hj d
theorem wanted_head {o:Oper} {a:Act} (hg: (match o.guard with|some (j,_)=>decide (j<n) |none=>true) =true) :
 Region.wanted o (yielded (l.take n).toArray a.tmps) =Region.wanted o (yielded l.toArray a.tmps):=by
 unfold Region.wanted
 split
 ·rfl
 ·rename_i j b hj
  rw [hj] at hg;have hlt:j<n:=by simpa using hg
  simp [yielded,hlt]
theorem lift_head (hB:tailB l n=true) : ∀(f:Nat) (lh listed:Array Bool) (a:Act) (w:World),HeadRel l n lh listed→
 wpAny P .any (l.take n).toArray (headPost P l.toArray Q (l.drop n)) f lh a w→wpAny P .any l.toArray Q (f+ (l.length - n)) listed a w:=by
 simp only [tailB,Bool.and_eq_true,decide_eq_true_eq] at hB;obtain⟨⟨⟨⟨⟨hn,hhead⟩,hsink⟩,hchain⟩,hseq⟩,_⟩:=hB
 have hop: ∀i,i<n→∃o,l[i]? =some o∧(∀e∈o.after,Region.binds .any e=true→e.on<i)∧(match o.guard with|some (j,_)=>decide (j<n) |none=>true) =true:=by
  intro i hi;have h1:=List.all_eq_true.1 hhead i (List.mem_range.2 hi)
  split at h1
  ·rename_i o ho
   simp only [Bool.and_eq_true] at h1;refine⟨o,ho,fun e he hb=> ?_,h1.2⟩;have h2:=Array.all_eq_true'.1 h1.1 e he;simp only [hb,Bool.not_true,Bool.false_or,decide_eq_true_eq] at h2;exact h2
  ·cases h1
 have hpre: ∀i,i<n→(l.take n).toArray[i]? =l.toArray[i]? :=by
  intro i hi;simp [hi]
 have done: ∀(f:Nat) (lh listed:Array Bool) (a:Act) (w:World),HeadRel l n lh listed→(∀i,i<n→lh.getD i true=true)→headPost P l.toArray Q (l.drop n) .normal a w→
  wpAny P .any l.toArray Q (f+ (l.length - n)) listed a w:=by
  intro f lh listed a w hr hall h
  have he:listed=Array.replicate n true ++ Array.replicate (l.length - n) false:=by
   apply Array.ext
   ·simp [hr.sl];omega
   ·intro i h1 h2
    by_cases hi:i<n
    ·have e1:=hr.same i hi true
     rw [hall i hi] at e1;simp [h1] at e1
     simp [hi,e1]
    ·have e1:=hr.tail i (by omega) (by rw [←hr.sl];exact h1)
     simp [h1] at e1
     rw [Array.getElem_append_right (by simp;omega)];simp [e1]
  subst he;rw [Nat.add_comm];refine any_more _ f _ a w ?_;have:=wpAny_of_seq (md:=.any) (P:=P) (Q':=Q) (ops:=l.toArray) (l.drop n) n _ a w (fun j=>by simp [List.getElem?_drop]) (by simpa using hseq) h
  simpa using this
 have least: ∀(lh:Array Bool),lh.size=n→(¬∀i,i<n→lh.getD i true=true)→Region.ready .any (l.take n).toArray lh≠ []:=by
  intro lh hsz hnot hnil
  have hex: ∃i,i<n∧lh.getD i true=false:=by
   refine Classical.byContradiction fun hc=>hnot fun i hi=> ?_
   cases hv:lh.getD i true with
   |true=>rfl
   |false=>exact absurd ⟨i,hi,hv⟩ hc
  have key: ∀m i,i≤m→i<n→lh.getD i true=false→False:=by
   intro m
   induction m using Nat.strongRecOn with
   |_ m ih=>
    intro i him hi hv;obtain⟨o,ho,he,_⟩:=hop i hi
    have hin:i∈Region.ready .any (l.take n).toArray lh:=by
     refine mem_ready.2 ⟨hv,o,by rw [hpre i hi];simpa using ho,fun e hem hb=> ?_⟩;have hlt:=he e hem hb
     cases hv2:lh.getD e.on false with
     |true=>rfl
     |false=>
      exfalso
      have:lh.getD e.on true=false:=by
       have:e.on<lh.size:=by omega
       simp [this] at hv2⊢
       exact hv2
      exact ih e.on (by omega) e.on (Nat.le_refl _) (by omega) this
    rw [hnil] at hin
    cases hin
  obtain⟨i,hi,hv⟩:=hex;exact key i i (Nat.le_refl _) hi hv
 have inHead: ∀(lh listed:Array Bool),HeadRel l n lh listed→(¬∀i,i<n→lh.getD i true=true)→∀i∈Region.ready .any l.toArray listed,i<n:=by
  intro lh listed hr hnot i hi;obtain⟨hu,o,ho,hall⟩:=mem_ready.1 hi;rcases Nat.lt_or_ge i n with hlt|hge
  ·exact hlt
  ·exfalso
   have hil:i<l.length:=by
    have:=(Array.getElem?_eq_some_iff.1 ho).1
    simpa using this
   by_cases hin:i=n
   ·subst hin
    have done_: ∀m j,j<i→i - j≤m→lh.getD j false=true:=by
     intro m
     induction m with
     |zero=>intro j hj hm;omega
     |succ m ih=>
      intro j hj hm;have hs:=List.all_eq_true.1 hsink j (List.mem_range.2 hj);simp only [Bool.or_eq_true] at hs;rcases hs with hs|hs
      ·obtain⟨o',ho',e,he,hb,hon⟩:=Region.waitsFor_spec hs
       have:o'=o:=Option.some.inj (ho'.symm.trans ho);subst this;have h1:=hall e he hb;rw [hon,hr.same j hj false] at h1;exact h1
      ·obtain⟨j',hj',hw⟩:=List.any_eq_true.1 hs
       simp only [Bool.and_eq_true,decide_eq_true_eq] at hw;have hlt:=List.mem_range.1 hj';obtain⟨o',ho',e,he,hb,hon⟩:=Region.waitsFor_spec hw.2;have h1:=hr.down j' o' hlt (by simpa using ho') (ih j' hlt (by omega)) e he hb;rw [hon] at h1;exact h1
    refine hnot fun j hj=> ?_;have h1:=done_ i j hj (by omega);have:j<lh.size:=by rw [hr.sh];exact hj
    simp [this] at h1⊢
    exact h1
   ·have h1:=List.all_eq_true.1 hchain i (List.mem_range.2 hil)
    simp only [Bool.or_eq_true,decide_eq_true_eq] at h1;rcases h1 with h1|h1
    ·omega
    ·obtain⟨o',ho',e,he,hb,hon⟩:=Region.waitsFor_spec h1
     have:o'=o:=Option.some.inj (ho'.symm.trans ho);subst this;have h2:=hall e he hb;have h3:=hr.tail (i - 1) (by omega) (by omega);rw [hon] at h2;have:i - 1<listed.size:=by rw [hr.sl];omega
     simp [this] at h2 h3
     rw [h2] at h3
     cases h3
 intro f
 induction f with
 |zero=>
  intro lh listed a w hr h;by_cases hall: ∀i,i<n→lh.getD i true=true
  ·exact done 0 lh listed a w hr hall h.2
  ·exact absurd h.1 (least lh hr.sh hall)
 |succ f ih=>
  intro lh listed a w hr h;by_cases hall: ∀i,i<n→lh.getD i true=true
  ·refine done (f+1) lh listed a w hr hall (h.1 ?_)
   cases hc:Region.ready .any (l.take n).toArray lh with
   |nil=>rfl
   |cons i r=>
    exfalso
    have hi:i∈Region.ready .any (l.take n).toArray lh:=by rw [hc];simp
    obtain⟨hu,o,ho,_⟩:=mem_ready.1 hi
    have hin:i<n:=by
     have:=(Array.getElem?_eq_some_iff.1 ho).1;simp at this
     omega
    rw [hall i hin] at hu
    cases hu
  ·rw [show f+1+ (l.length - n) = (f+ (l.length - n)) +1 by omega]
   refine⟨fun h0=> ?_,fun i hi=> ?_⟩
   ·exfalso
    refine least lh hr.sh hall ?_
    cases hc:Region.ready .any (l.take n).toArray lh with
    |nil=>rfl
    |cons i r=>
     exfalso
     have hi:i∈Region.ready .any (l.take n).toArray lh:=by rw [hc];simp
     obtain⟨hu,o,ho,hedge⟩:=mem_ready.1 hi
     have hin:i<n:=by
      have:=(Array.getElem?_eq_some_iff.1 ho).1;simp at this
      omega
     obtain⟨o',ho',he',_⟩:=hop i hin
     have:i∈Region.ready .any l.toArray listed:=by
      rw [hpre i hin] at ho;have hoo:o=o':=Option.some.inj (ho.symm.trans (by simpa using ho'));subst hoo;exact mem_ready.2 ⟨by rw [hr.same i hin];exact hu,o,ho,fun e hem hb=>by rw [hr.same e.on (by have:=he' e hem hb;omega)];exact hedge e hem hb⟩
     rw [h0] at this
     cases this
   ·have hin:=inHead lh listed hr hall i hi
    obtain⟨hu,o,ho,hedge⟩:=mem_ready.1 hi;obtain⟨o',ho',he',hg'⟩:=hop i hin;have hoo:o=o':=Option.some.inj (ho.symm.trans (by simpa using ho'));subst hoo
    have hi':i∈Region.ready .any (l.take n).toArray lh:=
     mem_ready.2 ⟨by rw [←hr.same i hin];exact hu,o,by rw [hpre i hin];exact ho,fun e hem hb=>by rw [←hr.same e.on (by have:=he' e hem hb;omega)];exact hedge e hem hb⟩
    have hdn: ∀o,l[i]? =some o→∀e∈o.after,Region.binds .any e=true→lh.getD e.on false=true:=fun o2 ho2 e hem hb=>by
     have:o2=o:=Option.some.inj (ho2.symm.trans (by simpa using ho));subst this;rw [←hr.same e.on (by have:=he' e hem hb;omega)];exact hedge e hem hb
    have h1:=h.2 i hi';unfold wpOp at h1⊢;rw [hpre i hin] at h1;rw [ho] at h1⊢;simp only [wanted_head hg'] at h1;simp only
    split at h1
    ·rename_i hw
     rw [if_pos hw];rcases h1 with h1| ⟨h1,h2⟩
     ·left
      exact upon_head (Oper.wp_mono (fun a' w' h'=>ih _ _ a' w' (hr.set hin hdn) h') h1)
     ·right
      obtain⟨a',w',h'⟩:=h2;exact⟨h1,a',w',h'⟩
    ·rename_i hw
     rw [if_neg hw];exact ih _ _ _ _ (hr.set hin hdn) h1
theorem wp_region_tail {id:Nat} {a:Act} {w:World} {l:List Oper} (n:Nat) (hm:P.follows .mixedOrders=true) (hB:tailB l n=true)
 (h:wpQuiet P (l.take n).toArray (fun w'=>∃x,w'=ext w x) (fun a'=>∀w',(∃x,w'=ext w x)→wpList P l.toArray Q (l.drop n) a' w') (l.take n) a) : (Code.region id l.toArray true).wp P Q a w:=by
 have hB0:=hB;simp only [tailB,Bool.and_eq_true,decide_eq_true_eq] at hB;obtain⟨⟨⟨⟨⟨hn,_⟩,_⟩,_⟩,_⟩,hlex⟩:=hB;simp only [Region.lexB,Bool.and_eq_true] at hlex;refine wp_region_any hm ?_;have hlen: (l.take n).length=n:=by simp;omega
 have h1:=wpAnyQ_lex (C:=fun w'=>∃x,w'=ext w x) (md:=.any) hlex.1 (l.take n) 0 (Array.replicate (l.take n).toArray.size false) a (by simp) (by simpa using hlex.2) h;rw [List.size_toArray,hlen] at h1;have h2:=wpAny_of_quiet (Q':=headPost P l.toArray Q (l.drop n)) (fun a' w' hw' hq=>hq w' hw') n _ a {w with drawn:=w.drawn+1} ⟨⟨#[],w.drawn+1⟩,by simp [ext]⟩ h1;have h3:=lift_head hB0 n (Array.replicate n false) (Array.replicate l.length false) a _ ⟨by simp,by simp,Nat.le_of_lt hn,fun i hi d=>by simp [hi,Nat.lt_trans hi hn],fun t _ ht=>by simp [ht],fun j o hj _ hl=>by simp [hj] at hl⟩ h2;rw [show n+ (l.length - n) =l.toArray.size by simp;omega] at h3
 simpa using h3
end
end
@[go_sem] theorem run_field_conf0 (w:World) (a b c:Int) : (Instr.field 23 (.agg #[.int .i64 a,.int .i64 b,.int .i64 c]) 0).run Tryz.prog w=.ok (.int .i64 a) w:=by kernel_rfl
@[go_sem] theorem run_field_conf1 (w:World) (a b c:Int) : (Instr.field 23 (.agg #[.int .i64 a,.int .i64 b,.int .i64 c]) 1).run Tryz.prog w=.ok (.int .i64 b) w:=by kernel_rfl
def isDig (l k K:Int) :Bool:=isPool K l && decide (1≤k∧k≤1048576)
def DigAt (w:World) (g K l:Nat) (k:Int) (r:List Nd) (F:Nat→Prop) :Prop:=
 1≤k∧k≤1048576∧∃p F0,F=footP g F0∧w.heap[g]? =some (.cells #[.int .i64 k,.pointer (some ⟨p,0,none⟩)] 140 (0,0))∧PoolAt w p K l r F0
theorem DigAt.keep {w w':World} {g K l:Nat} {k:Int} {r:List Nd} {F:Nat→Prop} (h:DigAt w g K l k r F) (hk: ∀b,F b→w'.heap[b]? =w.heap[b]?) :DigAt w' g K l k r F:=by
 obtain⟨h1,h2,p,F0,rfl,h3,h4⟩:=h;exact⟨h1,h2,p,F0,rfl,(hk g (.inl rfl)).trans h3,h4.keep fun q hq=>hk q (.inr hq)⟩
theorem DigAt.lt {w:World} {g K l:Nat} {k:Int} {r:List Nd} {F:Nat→Prop} (h:DigAt w g K l k r F) : ∀b,F b→b<w.heap.size:=by
 obtain⟨h1,h2,p,F0,rfl,h3,h4⟩:=h;rintro q (rfl|hq)
 ·exact lB h3
 ·exact h4.lt q hq
theorem DigAt.below {w w':World} {g K l:Nat} {k:Int} {r:List Nd} {F:Nat→Prop} (h:DigAt w g K l k r F) (hb:Below w.heap.size w w') :DigAt w' g K l k r F:=h.keep fun b hf=>hb.block b (h.lt b hf)
theorem DigAt.fits {w:World} {g K l:Nat} {k:Int} {r:List Nd} {F:Nat→Prop} (h:DigAt w g K l k r F) :Fits l r:=by
 obtain⟨h1,h2,p,F0,rfl,h3,h4⟩:=h;exact h4.fits
theorem DigAt.l_le {w:World} {g K l:Nat} {k:Int} {r:List Nd} {F:Nat→Prop} (h:DigAt w g K l k r F) :1≤l∧l≤48:=by
 obtain⟨h1,h2,p,F0,rfl,h3,h4⟩:=h;exact⟨h4.1,h4.2.1⟩
theorem pool_Kind (w:World) (g K l:Nat) (r:List Nd) (F:Nat→Prop) (h:PoolAt w g K l r F) :Calls Tryz.prog 89 #[.pointer (some ⟨g,0,none⟩)] w fun e w'=>e=.returned (.int .i64 K)∧Below w.heap.size w w':=by
 obtain⟨h1,h2,h3,p,F0,rfl,h4⟩:=h;rcases h4 with ⟨rfl,h16,hh,hd⟩ | ⟨rfl,hh,hd⟩
 ·have H:=LH hh
  clear hh hd
  go_enter Tryz.func89,Tryz.ntmps89
  go_wp2_with fail;refine(pool_isArray _ g p _ H.out).mono ?_;rintro e w1 ⟨rfl,hb1⟩;have B1:Below w.heap.size w w1:=Below.then_ bE hb1;have s1:=B1.size;go_wp2_with fail;go_ret;exact⟨rfl,bE⟩
 ·have H:=LH hh
  clear hh hd
  go_enter Tryz.func89,Tryz.ntmps89
  go_wp2_with fail;refine(pool_isArray_no _ g _ H.out).mono ?_;rintro e w1 ⟨rfl,hb1⟩;have B1:Below w.heap.size w w1:=Below.then_ bE hb1;have s1:=B1.size;go_wp2_with fail;go_ret;exact⟨rfl,bE⟩
theorem digest_New_no (w:World) (l k K:Int) (h:isDig l k K=false) :Calls Tryz.prog 79 #[.agg #[.int .i64 l,.int .i64 k,.int .i64 K]] w fun e w'=>e=.returned (.tuple #[.pointer none,.int .i64 2])∧Below w.heap.size w w':=by
 cases hp:isPool K l
 ·have HC:=LH (pool_New_no · K l hp)
  clear hp h
  go_enter Tryz.func79,Tryz.ntmps79
  go_wp2_with fail;refine(HC.out _).mono ?_;rintro e w1 ⟨rfl,hb1⟩;have B1:Below w.heap.size w w1:=Below.then_ bE hb1;have s1:=B1.size;have z1_0:w.heap.size<w1.heap.size:=by have:=hb1.size;(try simp at this);omega
  have y1_0:w.heap.size≤w1.heap.size:=Nat.le_of_lt z1_0;have c1_0:=czB hb1 (w.heap.size);have f1_0:=fzB hb1 (w.heap.size);go_wp2_with fail
  go_ret2
  exact⟨rfl,bE⟩
 ·have hk: ¬(1≤k∧k≤1048576):=by simpa [isDig,hp] using h
  have hp':=hp;simp only [isPool,decide_eq_true_eq] at hp';obtain⟨n,rfl⟩:=Int.eq_ofNat_of_zero_le (show 0≤l by omega);obtain⟨m,rfl⟩:=Int.eq_ofNat_of_zero_le (show 0≤K by omega);have HC:=LH (pool_New · m n hp);clear hp h hp';by_cases hk1:k<1
  ·clear hk
   go_enter Tryz.func79,Tryz.ntmps79
   go_wp2_with fail;refine(HC.out _).mono ?_;rintro e w1 ⟨g,F,rfl,_,_,hb1⟩;have B1:Below w.heap.size w w1:=Below.then_ bE hb1;have s1:=B1.size;have z1_0:w.heap.size<w1.heap.size:=by have:=hb1.size;(try simp at this);omega
   have y1_0:w.heap.size≤w1.heap.size:=Nat.le_of_lt z1_0;have c1_0:=czB hb1 (w.heap.size);have f1_0:=fzB hb1 (w.heap.size);go_wp2_with fail
   go_ret2
   exact⟨rfl,bE⟩
  ·have hk2:1048576<k:=by omega
   clear hk
   go_enter Tryz.func79,Tryz.ntmps79
   go_wp2_with fail;refine(HC.out _).mono ?_;rintro e w1 ⟨g,F,rfl,_,_,hb1⟩;have B1:Below w.heap.size w w1:=Below.then_ bE hb1;have s1:=B1.size;have z1_0:w.heap.size<w1.heap.size:=by have:=hb1.size;(try simp at this);omega
   have y1_0:w.heap.size≤w1.heap.size:=Nat.le_of_lt z1_0;have c1_0:=czB hb1 (w.heap.size);have f1_0:=fzB hb1 (w.heap.size);go_wp2_with fail
   go_ret2
   exact⟨rfl,bE⟩
def DigPost (K l:Nat) (k:Int) (r:List Nd) (w:World) (e:Ending) (w':World) :Prop:=∃g F,e=.returned (.tuple #[.pointer (some ⟨g,0,none⟩),.int .i64 0])∧DigAt w' g K l k r F∧(∀b,F b→w.heap.size≤b)∧Below w.heap.size w w'
theorem digest_New (w:World) (l K:Nat) (k:Int) (h:isDig l k K=true) :Calls Tryz.prog 79 #[.agg #[.int .i64 l,.int .i64 k,.int .i64 K]] w (DigPost K l k [] w):=by
 simp only [isDig,Bool.and_eq_true,decide_eq_true_eq] at h;obtain⟨hp,hk1,hk2⟩:=h;have HC:=LH (pool_New · K l hp);clear hp
 go_enter Tryz.func79,Tryz.ntmps79
 go_wp2_with fail;refine(HC.out _).mono ?_;rintro e w1 ⟨g,F,rfl,hP,hF,hb1⟩;have B1:Below w.heap.size w w1:=Below.then_ bE hb1;have s1:=B1.size;have z1_0:w.heap.size<w1.heap.size:=by have:=hb1.size;(try simp at this);omega
 have y1_0:w.heap.size≤w1.heap.size:=Nat.le_of_lt z1_0;have c1_0:=czB hb1 (w.heap.size);have f1_0:=fzB hb1 (w.heap.size);have HP:=LH hP;simp only [World.size_alloc] at hF;have HF:=LH hF;clear hP hF;go_wp2_with fail
 go_ret2
 refine⟨w1.heap.size,footP w1.heap.size F,rfl,⟨hk1,hk2,g,F,rfl,heap_new_at w1 _ _ rfl,HP.out.below ((Below.refl _ _).alloc (Nat.le_refl _) _)⟩,?_,bE⟩;rintro b (rfl|hb)
 ·exact s1
 ·have:=HF.out b hb;omega
def loadErr (l k K:Int) (r:List Nd) :Int:=if isDig l k K=false then 2 else if rightOf l r=false then 10 else if 8*k<r.length then 13 else if lightOf l r k=false then 13 else 0
theorem digest_Load (w:World) (l K:Nat) (k:Int) (A:Option Addr) (cap:Nat) (r:List Nd) (h:loadErr l k K r=0) (hS:Sl w w.heap.size encN A r) (hI:ints r) (hn:r.length<67108864) :
 Calls Tryz.prog 154 #[.agg #[.int .i64 l,.int .i64 k,.int .i64 K],.slice A r.length cap] w (DigPost K l k r w):=by
 have hd:isDig l k K=true:=by
  cases hd:isDig l k K
  ·simp only [loadErr] at h;rw [if_pos hd] at h;cases h
  ·rfl
 have hr:rightOf l r=true:=by
  cases hr:rightOf l r
  ·simp only [loadErr] at h;rw [if_neg (by simp [hd]),if_pos hr] at h;cases h
  ·rfl
 have h8: ¬8*k<r.length:=by
  intro h8;simp only [loadErr] at h;rw [if_neg (by simp [hd]),if_neg (by simp [hr]),if_pos h8] at h
  cases h
 have hl:lightOf l r k=true:=by
  cases hl:lightOf l r k
  ·simp only [loadErr] at h;rw [if_neg (by simp [hd]),if_neg (by simp [hr]),if_neg h8,if_pos hl] at h;cases h
  ·rfl
 have HC:=LH (digest_New · l K k hd);have HR:=LH (roll_Right · l A cap r · hI (by unfold maxLen;omega));have HS:=LH hS;have hpl:isPool K l=true:=by simp only [isDig,Bool.and_eq_true] at hd;exact hd.1
 have HL:=LH (pool_Load · K l A cap r hpl hr · hI hn);simp only [isDig,Bool.and_eq_true,decide_eq_true_eq] at hd;obtain⟨_,hk1,hk2⟩:=hd;rw [hr] at HR;have HLF:=LH hl;clear h hS hr hI hpl hl
 go_enter Tryz.func154,Tryz.ntmps154
 go_wp2_with fail;refine(HC.out _).mono ?_;rintro e w1 ⟨g,F,rfl,_,_,hb1⟩;have B1:Below w.heap.size w w1:=Below.then_ bE hb1;have s1:=B1.size;have z1_0:w.heap.size<w1.heap.size:=by have:=hb1.size;(try simp at this);omega
 have y1_0:w.heap.size≤w1.heap.size:=Nat.le_of_lt z1_0;have c1_0:=czB hb1 (w.heap.size);have f1_0:=fzB hb1 (w.heap.size);go_wp2_with fail;refine(HR.out _ (HS.out.keep s1 fun p hp=>B1.cell hp)).mono ?_;rintro e w2 ⟨rfl,hb2⟩;have B2:Below w.heap.size w w2:=Below.then_ bE hb2;have s2:=B2.size;have z2_0:w.heap.size<w2.heap.size:=by have:=hb2.size;(try simp at this);omega
 have y2_0:w.heap.size≤w2.heap.size:=Nat.le_of_lt z2_0;have c2_0:=czB hb2 (w.heap.size);have f2_0:=fzB hb2 (w.heap.size);go_wp2_with fail;refine(HL.out _ (HS.out.keep s2 fun p hp=>B2.cell hp)).mono ?_;rintro e w3 ⟨gp,Fp,rfl,hP,hF,hb3⟩;have B3:Below w.heap.size w w3:=Below.then_ bE hb3;have s3:=B3.size;have z3_0:w.heap.size<w3.heap.size:=by have:=hb3.size;(try simp at this);omega
 have y3_0:w.heap.size≤w3.heap.size:=Nat.le_of_lt z3_0;have c3_0:=czB hb3 (w.heap.size);have f3_0:=fzB hb3 (w.heap.size);have KP:=LH hP;have KF:=LH hF;clear hP hF;go_wp2_with fail;refine(press_Light _ gp K l r Fp k KP.out hk1 hk2 (by omega)).mono ?_;rintro e w4 ⟨rfl,hb4⟩;have B4:Below w.heap.size w w4:=Below.then_ bE hb4;have s4:=B4.size;have z4_0:w.heap.size<w4.heap.size:=by have:=hb4.size;(try simp at this);omega
 have y4_0:w.heap.size≤w4.heap.size:=Nat.le_of_lt z4_0;have c4_0:=czB hb4 (w.heap.size);have f4_0:=fzB hb4 (w.heap.size);rw [HLF.out];have KP4:=LH (KP.out.below hb4);clear KP;go_wp2_with fail
 go_ret2
 refine⟨w4.heap.size,footP w4.heap.size Fp,rfl,⟨hk1,hk2,gp,Fp,rfl,heap_new_at w4 _ _ rfl,KP4.out.below ((Below.refl _ _).alloc (Nat.le_refl _) _)⟩,?_,bE⟩;rintro b (rfl|hb)
 ·exact s4
 ·have:=KF.out b hb;omega
theorem digest_N (w:World) (g K l:Nat) (k:Int) (r:List Nd) (F:Nat→Prop) (h:DigAt w g K l k r F) :Calls Tryz.prog 24 #[.pointer (some ⟨g,0,none⟩)] w fun e w'=>e=.returned (.int .i64 (sumR r))∧Below w.heap.size w w':=by
 obtain⟨h1,h2,p,F0,rfl,hh,hP⟩:=h;have c:=bC hh;have z:=lB hh;have HP:=LH hP;clear hh hP
 go_enter Tryz.func24,Tryz.ntmps24
 go_wp2_with fail;refine(pool_Total _ p K l r F0 HP.out).mono ?_;rintro e w1 ⟨rfl,hb1⟩;have B1:Below w.heap.size w w1:=Below.then_ bE hb1;have s1:=B1.size;go_wp2_with fail;go_ret;exact⟨rfl,bE⟩
theorem digest_Nodes (w:World) (g K l:Nat) (k:Int) (r:List Nd) (F:Nat→Prop) (h:DigAt w g K l k r F) (hn:r.length≤67108864) :Calls Tryz.prog 48 #[.pointer (some ⟨g,0,none⟩)] w (OwnPost 154 encN r w):=by
 obtain⟨h1,h2,p,F0,rfl,hh,hP⟩:=h;have c:=bC hh;have z:=lB hh;have HP:=LH hP;clear hh hP
 go_enter Tryz.func48,Tryz.ntmps48
 go_wp2_with fail;refine(pool_Snap _ p K l r F0 HP.out hn).mono ?_;rintro e w1 ⟨v,rfl,ho,hb⟩;have HO:=LH ho;clear ho;go_wp2_with fail;go_ret;exact⟨_,rfl,HO.out,hb⟩
theorem digest_Conf (w:World) (g K l:Nat) (k:Int) (r:List Nd) (F:Nat→Prop) (h:DigAt w g K l k r F) :Calls Tryz.prog 46 #[.pointer (some ⟨g,0,none⟩)] w fun e w'=>e=.returned (.agg #[.int .i64 l,.int .i64 k,.int .i64 K])∧Below w.heap.size w w':=by
 obtain⟨h1,h2,p,F0,rfl,hh,hP⟩:=h;have c:=bC hh;have z:=lB hh;have hPA:=hP.below ((Below.refl w.heap.size w).alloc (Nat.le_refl _) (.cells #[.int .i64 0,.int .i64 0,.int .i64 0] 23));have HP:=LH hPA;clear hh hP hPA
 go_enter Tryz.func46,Tryz.ntmps46
 go_wp2_with fail;refine wp_region_tail 18 (by kernel_rfl) (by kernel_rfl) ?_;simp only [List.take_succ_cons,List.take_zero,List.drop_succ_cons,List.drop_zero]
 repeat (go_big_quiet_step (first| (go_at_call 88;exact quiet_ext (pool_L _ p K l r F0 (HP.out.below (ext_below _ _)))) | (go_at_call 89;exact quiet_ext (pool_Kind _ p K l r F0 (HP.out.below (ext_below _ _))))))
 refine wpQuiet_nil ?_;intro w1 hb1;replace hb1:=bX hb1;have B1:Below w.heap.size w w1:=Below.then_ bE hb1;have s1:=B1.size;have z1_0:w.heap.size<w1.heap.size:=by have:=hb1.size;(try simp at this);omega
 have y1_0:w.heap.size≤w1.heap.size:=Nat.le_of_lt z1_0;have c1_0:=czB hb1 (w.heap.size);have f1_0:=fzB hb1 (w.heap.size);go_wp2_with fail;exact bR (v:=.agg #[.int .i64 l,.int .i64 k,.int .i64 K]) (by simp only [results,Tryz.results46];go_simp) rfl ⟨rfl,bE⟩
def weighR (l:Int) (f:Int→Int→Bool) :List Nd→Int
 | []=>0
 |x :: r=>(if f (endsOf l x.1).1 (endsOf l x.1).2.1=true then x.2 else 0) +weighR l f r
def lowOf (l:Int) (r:List Nd) (y:Int) :Int:=weighR l (fun _ hi=>decide (hi≤y)) r
def highOf (l:Int) (r:List Nd) (y:Int) :Int:=weighR l (fun lo _=>decide (lo≤y)) r
theorem ref2_Is (w:World) (l:Int) :Calls Tryz.prog 92 #[.int .i64 l] w fun e w'=>e=.returned (.bool (decide (1≤l∧l≤48)))∧Below w.heap.size w w':=by
 by_cases h1:1≤l
 ·go_enter Tryz.func92,Tryz.ntmps92
  go_wp2_with fail;go_ret;exact⟨ret_bool (by simp [h1]),bE⟩
 ·go_enter Tryz.func92,Tryz.ntmps92
  go_wp2_with fail;go_ret;exact⟨ret_bool (by simp;omega),bE⟩
theorem log2_half {x:Nat} (h:2≤x) :x.log2= (x / 2).log2+1:=by
 conv=>lhs;rw [Nat.log2_def]
 rw [if_pos h]
theorem depth_V (x:Nat) (hx:1≤x) : (if 1≤(x:Int) then Value.tuple #[.int .i64 (x:Int).toNat.log2,.bool true] else Value.tuple #[.int .i64 0,.bool false]) =.tuple #[.int .i64 x.log2,.bool true]:=by
 rw [if_pos (by omega),Int.toNat_natCast]
theorem ref2_Depth (w:World) (n:Int) (hn:n≤9223372036854775807) :Calls Tryz.prog 145 #[.int .i64 n] w fun e w'=>
 e=.returned (if 1≤n then .tuple #[.int .i64 n.toNat.log2,.bool true] else .tuple #[.int .i64 0,.bool false])∧Below w.heap.size w w':=by
 by_cases h1:1≤n
 ·obtain⟨x,rfl⟩:=Int.eq_ofNat_of_zero_le (show 0≤n by omega)
  rw [depth_V x (by omega)];have hl:x.log2<64:=(Nat.log2_lt (by omega)).2 (by omega)
  go_enter Tryz.func145,Tryz.ntmps145
  go_wp2_with fail
  go_loop [0,4] (fun a d=>∃y j:Nat,1≤y∧y≤x∧a=.int .i64 y∧d=.int .i64 j∧j+y.log2=x.log2) (fun a _=>(intOf a).toNat)
  case atStart=>exact⟨x,0,by omega,Nat.le_refl _,rfl,rfl,by omega⟩
  case round=>
   obtain⟨y,j,hy,hyx,rfl,rfl,hj⟩:=hrel;by_cases h2:2≤y
   ·have HL:=LH (log2_half h2)
    have h3: (1:Int) < (y:Int):=by omega
    have hj2:j<64:=by omega
    go_wp2_with fail
    go_round
    case rel=>exact⟨y / 2,j+1,by omega,by omega,by go_num,by go_num,by have:=HL.out;omega⟩
    case measure=>simp [intOf];omega
   ·obtain rfl:y=1:=by omega
    have e0: (1:Nat).log2=0:=by decide
    obtain rfl:j=x.log2:=by omega
    clear e0 hj;go_wp2_with fail
    go_ret2
    exact⟨rfl,bE⟩
 ·rw [if_neg h1]
  go_enter Tryz.func145,Tryz.ntmps145
  go_wp2_with fail
  go_ret2
  exact⟨rfl,bE⟩
theorem isNode_log {l:Int} {x:Nat} (hx:1≤x) :isNode l x= (decide (1≤l∧l≤48) && decide ((x.log2:Int)≤l)):=by
 simp only [isNode];rw [Bool.eq_iff_iff];simp only [decide_eq_true_eq,Bool.and_eq_true]
 constructor
 ·rintro⟨h1,h2,h3⟩
  refine⟨h1,?_⟩;obtain⟨n,rfl⟩:=Int.eq_ofNat_of_zero_le (show 0≤l by omega)
  have h4:x<2^ (n+1):=by
   have: ((2^ (n+1) :Nat) :Int) =2*2^n:=by rw [Nat.pow_succ];simp;omega
   simp only [Int.toNat_natCast] at h3;omega
  have:=(Nat.log2_lt (by omega)).2 h4;omega
 ·rintro⟨h1,h2⟩
  obtain⟨n,rfl⟩:=Int.eq_ofNat_of_zero_le (show 0≤l by omega);have h4:x<2^ (n+1):=(Nat.log2_lt (by omega)).1 (by omega);have: ((2^ (n+1) :Nat) :Int) =2*2^n:=by rw [Nat.pow_succ];simp;omega
  refine⟨h1,by omega,?_⟩;simp only [Int.toNat_natCast];omega
theorem ref2_Right (w:World) (l id:Int) (hid:id≤9223372036854775807) :Calls Tryz.prog 95 #[.int .i64 l,.int .i64 id] w fun e w'=>e=.returned (.bool (isNode l id))∧Below w.heap.size w w':=by
 by_cases h1:1≤id
 ·obtain⟨x,rfl⟩:=Int.eq_ofNat_of_zero_le (show 0≤id by omega)
  have HN:=LH (isNode_log (l:=l) (x:=x) (by omega))
  cases h2:decide (1≤l∧l≤48)
  ·rw [h2] at HN
   have H2:=LH h2;clear h2
   go_enter Tryz.func95,Tryz.ntmps95
   go_wp2_with fail;refine(ref2_Depth _ x hid).mono ?_;rintro e w1 ⟨rfl,hb1⟩;have B1:Below w.heap.size w w1:=Below.then_ bE hb1;have s1:=B1.size;rw [depth_V x (by omega)];go_wp2_with fail;refine(ref2_Is _ l).mono ?_;rintro e w2 ⟨rfl,hb2⟩;have B2:Below w.heap.size w w2:=Below.then_ bE hb2;have s2:=B2.size;rw [H2.out];go_wp2_with fail;go_ret;exact⟨ret_bool (by rw [HN.out];rfl),bE⟩
  ·rw [h2] at HN
   have H2:=LH h2;clear h2
   go_enter Tryz.func95,Tryz.ntmps95
   go_wp2_with fail;refine(ref2_Depth _ x hid).mono ?_;rintro e w1 ⟨rfl,hb1⟩;have B1:Below w.heap.size w w1:=Below.then_ bE hb1;have s1:=B1.size;rw [depth_V x (by omega)];go_wp2_with fail;refine(ref2_Is _ l).mono ?_;rintro e w2 ⟨rfl,hb2⟩;have B2:Below w.heap.size w w2:=Below.then_ bE hb2;have s2:=B2.size;rw [H2.out];go_wp2_with fail;go_ret;exact⟨ret_bool (by rw [HN.out];rfl),bE⟩
 ·have e0:isNode l id=false:=by simp [isNode,h1]
  rw [e0];have e1: (if 1≤id then Value.tuple #[.int .i64 id.toNat.log2,.bool true] else Value.tuple #[.int .i64 0,.bool false]) =.tuple #[.int .i64 0,.bool false]:=if_neg h1;have E1:=LH e1;clear e0 e1
  cases h2:decide (1≤l∧l≤48)
  all_goals
   have H2:=LH h2;clear h2
   go_enter Tryz.func95,Tryz.ntmps95
   go_wp2_with fail;refine(ref2_Depth _ id hid).mono ?_;rintro e w1 ⟨rfl,hb1⟩;have B1:Below w.heap.size w w1:=Below.then_ bE hb1;have s1:=B1.size;rw [E1.out];go_wp2_with fail;refine(ref2_Is _ l).mono ?_;rintro e w2 ⟨rfl,hb2⟩;have B2:Below w.heap.size w w2:=Below.then_ bE hb2;have s2:=B2.size;rw [H2.out];go_wp2_with fail;go_ret;exact⟨rfl,bE⟩
theorem kidsOf_log {l x:Nat} (hN:isNode l x=true) :kidsOf l x=if x.log2=l then (0,0,false) else (2* (x:Int),2* (x:Int) +1,true):=by
 have h1:=hN;rw [isNode_log (by simp only [isNode,decide_eq_true_eq] at hN;omega)] at h1;simp only [Bool.and_eq_true,decide_eq_true_eq] at h1;have hx:1≤x:=by simp only [isNode,decide_eq_true_eq] at hN;omega
 simp only [kidsOf,hN,true_and,Int.toNat_natCast];by_cases h2:x.log2=l
 ·rw [if_pos h2,if_neg]
  have:=Nat.log2_self_le (show x≠0 by omega);rw [h2] at this;intro h3;have h4: ((2^l:Nat) :Int) =2^l:=by simp
  omega
 ·rw [if_neg h2,if_pos]
  have:=(Nat.log2_lt (n:=x) (k:=l) (by omega)).1 (by omega);have h4: ((2^l:Nat) :Int) =2^l:=by simp
  omega
theorem ref2_Kids (w:World) (l id:Int) (hid:id≤9223372036854775807) :Calls Tryz.prog 146 #[.int .i64 l,.int .i64 id] w fun e w'=>e=.returned (endsV (kidsOf l id))∧Below w.heap.size w w':=by
 cases hN:isNode l id
 ·have e1:kidsOf l id= (0,0,false):=by simp [kidsOf,hN]
  rw [e1];have HN:=LH hN;clear hN e1;by_cases h1:1≤id
  ·obtain⟨x,rfl⟩:=Int.eq_ofNat_of_zero_le (show 0≤id by omega)
   go_enter Tryz.func146,Tryz.ntmps146
   go_wp2_with fail;refine(ref2_Depth _ x hid).mono ?_;rintro e w1 ⟨rfl,hb1⟩;have B1:Below w.heap.size w w1:=Below.then_ bE hb1;have s1:=B1.size;rw [depth_V x (by omega)];go_wp2_with fail;refine(ref2_Right _ l x hid).mono ?_;rintro e w2 ⟨rfl,hb2⟩;have B2:Below w.heap.size w w2:=Below.then_ bE hb2;have s2:=B2.size;rw [HN.out];go_wp2_with fail
   go_ret3
   exact⟨rfl,bE⟩
  ·have E1:=LH (show (if 1≤id then Value.tuple #[.int .i64 id.toNat.log2,.bool true] else Value.tuple #[.int .i64 0,.bool false]) =.tuple #[.int .i64 0,.bool false] from if_neg h1)
   go_enter Tryz.func146,Tryz.ntmps146
   go_wp2_with fail;refine(ref2_Depth _ id hid).mono ?_;rintro e w1 ⟨rfl,hb1⟩;have B1:Below w.heap.size w w1:=Below.then_ bE hb1;have s1:=B1.size;rw [E1.out];go_wp2_with fail;refine(ref2_Right _ l id hid).mono ?_;rintro e w2 ⟨rfl,hb2⟩;have B2:Below w.heap.size w w2:=Below.then_ bE hb2;have s2:=B2.size;rw [HN.out];go_wp2_with fail
   go_ret3
   exact⟨rfl,bE⟩
 ·obtain⟨n,x,rfl,rfl,hn1,hn2,hx1,hx2⟩:=isNode_nat hN
  have HK:=LH (kidsOf_log hN);have HN:=LH hN;have q5:=pow_48 (n:=n) hn2;have q7: (x:Int)≤562949953421312:=by omega
  clear hN hx2;by_cases h2:x.log2=n
  ·have h3: ((x.log2:Int) == (n:Int)) =true:=by simp [h2]
   have HK2:=LH (show kidsOf n x= (0,0,false) by rw [HK.out,if_pos h2]);clear h2
   go_enter Tryz.func146,Tryz.ntmps146
   go_wp2_with fail;refine(ref2_Depth _ x hid).mono ?_;rintro e w1 ⟨rfl,hb1⟩;have B1:Below w.heap.size w w1:=Below.then_ bE hb1;have s1:=B1.size;rw [depth_V x (by omega)];go_wp2_with fail;refine(ref2_Right _ n x hid).mono ?_;rintro e w2 ⟨rfl,hb2⟩;have B2:Below w.heap.size w w2:=Below.then_ bE hb2;have s2:=B2.size;rw [HN.out];go_wp2_with fail
   go_ret3
   exact⟨by rw [HK2.out];rfl,bE⟩
  ·have h3: ((x.log2:Int) == (n:Int)) =false:=by simp;omega
   have HK2:=LH (show kidsOf n x= (2* (x:Int),2* (x:Int) +1,true) by rw [HK.out,if_neg h2]);clear h2
   go_enter Tryz.func146,Tryz.ntmps146
   go_wp2_with fail;refine(ref2_Depth _ x hid).mono ?_;rintro e w1 ⟨rfl,hb1⟩;have B1:Below w.heap.size w w1:=Below.then_ bE hb1;have s1:=B1.size;rw [depth_V x (by omega)];go_wp2_with fail;refine(ref2_Right _ n x hid).mono ?_;rintro e w2 ⟨rfl,hb2⟩;have B2:Below w.heap.size w w2:=Below.then_ bE hb2;have s2:=B2.size;rw [HN.out];go_wp2_with fail
   go_ret3
   exact⟨by rw [HK2.out];rfl,bE⟩
theorem ref2_Power (w:World) (n:Nat) (hn:n≤62) :Calls Tryz.prog 62 #[.int .i64 n] w fun e w'=>e=.returned (.int .i64 (2^n))∧Below w.heap.size w w':=by
 go_enter Tryz.func62,Tryz.ntmps62
 go_wp2_with fail
 go_loop [3,4] (fun p i=>∃j q:Nat,j≤n∧i=.int .i64 j∧p=.int .i64 q∧q=2^j) (fun _ i=>n - (intOf i).toNat)
 case atStart=>exact⟨0,1,by omega,rfl,rfl,rfl⟩
 case round=>
  obtain⟨j,q,hj,rfl,rfl,hq⟩:=hrel;by_cases hlt:j<n
  ·have h1:2^j≤2^61:=Nat.pow_le_pow_right (by decide) (by omega)
   have h2:q≤2305843009213693952:=by rw [hq];simpa using h1
   have HQ:=LH hq;clear hq h1;go_wp2_with fail
   go_round
   case rel=>exact⟨j+1,2*q,by omega,by go_num,by go_num,by rw [HQ.out,Nat.pow_succ,Nat.mul_comm]⟩
   case measure=>simp [intOf];omega
  ·obtain rfl:j=n:=by omega
   have HQ:=LH hq;clear hq;go_wp2_with fail;go_ret;exact⟨ret_int (by rw [HQ.out];simp),bE⟩
theorem totalFrom_bad {m:Int} {x:Nd} {l:List Nd} (hm:0≤m) (h:x.2<0∨most - m<x.2) :totalFrom m (x :: l) = (0,false):=by
 simp only [totalFrom];rw [if_neg];rintro⟨h1,h2⟩;unfold addOf at h1 h2;unfold most at*
 split at h1
 ·rename_i hc
  rw [if_pos hc] at h2;simp only at h2;omega
 ·cases h1
theorem totalFrom_good {m:Int} {x:Nd} {l:List Nd} (hm:0≤m) (h1:0≤x.2) (h2:x.2≤most - m) :totalFrom m (x :: l) =totalFrom (m+x.2) l:=by
 simp only [totalFrom];unfold most at h2;have e:addOf m x.2= (m+x.2,true):=by unfold addOf;rw [if_pos (by omega)]
 rw [e,if_pos ⟨rfl,by unfold most;simp only;omega⟩]
theorem ref6_Total (w:World) (A:Option Addr) (cap:Nat) (l:List Nd) (hS:Sl w w.heap.size encN A l) (hI:ints l) (hm:l.length≤maxLen) :
 Calls Tryz.prog 148 #[.slice A l.length cap] w fun e w'=>e=.returned (okV (totalOf l))∧Below w.heap.size w w':=by
 have HS:=LH hS;have HI:=LH hI;unfold maxLen at hm;clear hS hI
 go_enter Tryz.func148,Tryz.ntmps148
 go_wp2_with fail
 go_loop [4,5] (fun n i=>∃(k:Nat) (m:Int),k≤l.length∧i=.int .i64 k∧n=.int .i64 m∧0≤m∧m≤72057594037927935∧totalOf l=totalFrom m (l.drop k)) (fun _ i=>l.length - (intOf i).toNat)
 case atStart=>exact⟨0,0,by omega,rfl,rfl,by omega,by omega,rfl⟩
 case round=>
  obtain⟨k,m,hk,rfl,rfl,hm0,hm1,hT⟩:=hrel;have HT:=LH hT;clear hT;by_cases hlt:k<l.length
  ·obtain⟨b,off,rfl,hb,hc⟩:=HS.out.at_ hlt
   have d0:=hc 0 (.int .i64 l[k].1) rfl;have d1:=hc 1 (.int .i64 l[k].2) rfl;simp only [Nat.add_zero] at d0;have hx:=(HI.out _ (List.getElem_mem hlt)).2;have hN:=HT.out;rw [drop_cons hlt] at hN;obtain⟨x,hxe⟩ : ∃x,x=l[k]:=⟨_,rfl⟩;rw [←hxe] at d0 d1 hx hN;unfold i64 at hx;have hx1:=hx.1;have hx2:=hx.2;have HN:=LH hN;clear hc hN hxe hx;by_cases h1:x.2<0
   ·have HF:=LH (HN.out.trans (totalFrom_bad hm0 (.inl h1)))
    go_wp2_with fail
    go_ret2
    exact⟨by rw [HF.out];rfl,bE⟩
   ·by_cases h2:72057594037927935 - m<x.2
    ·have HF:=LH (HN.out.trans (totalFrom_bad hm0 (.inr h2)))
     go_wp2_with fail
     go_ret2
     exact⟨by rw [HF.out];rfl,bE⟩
    ·have HF:=LH (HN.out.trans (totalFrom_good hm0 (by omega) (by unfold most;omega)))
     go_wp2_with fail
     go_round
     case rel=>exact⟨k+1,m+x.2,by omega,by go_num,rfl,by omega,by omega,HF.out⟩
     case measure=>simp [intOf];omega
  ·obtain rfl:k=l.length:=by omega
   have HE:=LH (show totalOf l= (m,true) by rw [HT.out,List.drop_length];rfl);go_wp2_with fail
   go_ret2
   exact⟨by rw [HE.out];rfl,bE⟩
def lastR (l:List Nd) (k:Nat) :Int:=if k=0 then 0 else (l[k - 1]?.getD (0,0)).1
theorem ref7_Total (w:World) (u:Int) (A:Option Addr) (cap:Nat) (l:List Nd) (hS:Sl w w.heap.size encN A l) (hI:ints l) (hm:l.length≤maxLen) :
 Calls Tryz.prog 98 #[.agg #[.int .i64 u,.slice A l.length cap]] w fun e w'=>e=.returned (.int .i64 (totalOf l).1)∧Below w.heap.size w w':=by
 have HC:=LH (ref6_Total · A cap l · hI hm);have HS:=LH hS;clear hS hI hm
 go_enter Tryz.func98,Tryz.ntmps98
 go_wp2_with fail;refine(HC.out _ (HS.out.keep (by simp) fun p hp=>((Below.refl w.heap.size w).alloc (Nat.le_refl _) _).cell hp)).mono ?_;rintro e w1 ⟨rfl,hb1⟩;have B1:Below w.heap.size w w1:=Below.then_ bE hb1;have s1:=B1.size;have z1_0:w.heap.size<w1.heap.size:=by have:=hb1.size;(try simp at this);omega
 have y1_0:w.heap.size≤w1.heap.size:=Nat.le_of_lt z1_0;have c1_0:=czB hb1 (w.heap.size);have f1_0:=fzB hb1 (w.heap.size);unfold okV;go_wp2_with fail;go_ret;exact⟨rfl,bE⟩
theorem ref9_Is (w:World) (K l:Int) :Calls Tryz.prog 115 #[.int .i64 K,.int .i64 l] w fun e w'=>e=.returned (.bool (isPool K l))∧Below w.heap.size w w':=by
 by_cases h1:K=1
 ·subst h1
  by_cases h2:1≤l
  ·by_cases h3:l≤16
   ·go_enter Tryz.func115,Tryz.ntmps115
    go_wp2_with fail;go_ret;exact⟨ret_bool (by simp [isPool,h2,h3]),bE⟩
   ·have h3':16<l:=by omega
    go_enter Tryz.func115,Tryz.ntmps115
    go_wp2_with fail;go_ret;exact⟨ret_bool (by simp [isPool];omega),bE⟩
  ·go_enter Tryz.func115,Tryz.ntmps115
   go_wp2_with fail;go_ret;exact⟨ret_bool (by simp [isPool];omega),bE⟩
 ·have e1: (K == 1) =false:=by simpa using h1
  by_cases h2:K=2
  ·subst h2
   by_cases h3:1≤l
   ·go_enter Tryz.func115,Tryz.ntmps115
    go_wp2_with fail;go_ret;exact⟨ret_bool (by simp [isPool,h3]),bE⟩
   ·go_enter Tryz.func115,Tryz.ntmps115
    go_wp2_with fail;go_ret;exact⟨ret_bool (by simp [isPool];omega),bE⟩
  ·have e2: (K == 2) =false:=by simpa using h2
   go_enter Tryz.func115,Tryz.ntmps115
   go_wp2_with fail;go_ret;exact⟨ret_bool (by simp [isPool,h1,h2]),bE⟩
theorem ref11_Cap (w:World) (n k:Int) (hn0:0≤n) (hn:n≤9223372036854775807) (hk:1≤k) (hk2:k≤9223372036854775807) :Calls Tryz.prog 180 #[.int .i64 n,.int .i64 k] w fun e w'=>e=.returned (.int .i64 (n / k))∧Below w.heap.size w w':=by
 have q1:0≤n / k:=Int.ediv_nonneg (by omega) (by omega);have q2:n / k≤n:=Int.ediv_le_self _ (by omega)
 go_enter Tryz.func180,Tryz.ntmps180
 go_wp2_with fail;go_ret;exact⟨rfl,bE⟩
theorem ref12_Is (w:World) (k:Int) :Calls Tryz.prog 93 #[.int .i64 k] w fun e w'=>e=.returned (.bool (decide (1≤k∧k≤1048576)))∧Below w.heap.size w w':=by
 by_cases h1:1≤k
 ·go_enter Tryz.func93,Tryz.ntmps93
  go_wp2_with fail;go_ret;exact⟨ret_bool (by simp [h1]),bE⟩
 ·go_enter Tryz.func93,Tryz.ntmps93
  go_wp2_with fail;go_ret;exact⟨ret_bool (by simp;omega),bE⟩
theorem ref12_Cap (w:World) (u k:Int) (A:Option Addr) (cap:Nat) (l:List Nd) (hS:Sl w w.heap.size encN A l) (hI:ints l) (hm:l.length≤maxLen) (h0:0≤(totalOf l).1) (h1: (totalOf l).1≤72057594037927935) (hk:1≤k) (hk2:k≤1048576) :
 Calls Tryz.prog 147 #[.agg #[.int .i64 u,.slice A l.length cap],.int .i64 k] w fun e w'=>e=.returned (.int .i64 ((totalOf l).1 / k))∧Below w.heap.size w w':=by
 have HC:=LH (ref7_Total · u A cap l · hI hm);have HS:=LH hS;clear hS hI hm;generalize (totalOf l).1=t at HC h0 h1⊢
 go_enter Tryz.func147,Tryz.ntmps147
 go_wp2_with fail;refine(HC.out _ (HS.out.keep (by simp) fun p hp=>((Below.refl w.heap.size w).alloc (Nat.le_refl _) _).cell hp)).mono ?_;rintro e w1 ⟨rfl,hb1⟩;have B1:Below w.heap.size w w1:=Below.then_ bE hb1;have s1:=B1.size;have z1_0:w.heap.size<w1.heap.size:=by have:=hb1.size;(try simp at this);omega
 have y1_0:w.heap.size≤w1.heap.size:=Nat.le_of_lt z1_0;have c1_0:=czB hb1 (w.heap.size);have f1_0:=fzB hb1 (w.heap.size);go_wp2_with fail;refine(ref11_Cap _ t k h0 (by omega) hk (by omega)).mono ?_;rintro e w2 ⟨rfl,hb2⟩;have B2:Below w.heap.size w w2:=Below.then_ bE hb2;have s2:=B2.size;go_wp2_with fail;go_ret;exact⟨rfl,bE⟩
theorem light_step {u m:Int} {l:List Nd} {k:Nat} (hk:k<l.length) (h: (l.take k).any (heavy u m) =false) (hx:heavy u m l[k] =false) : (l.take (k+1)).any (heavy u m) =false:=by
 rw [List.take_succ_eq_append_getElem hk,List.any_append,h];simp [hx]
theorem light_bad {u m:Int} {l:List Nd} {k:Nat} (hk:k<l.length) (hx:heavy u m l[k] =true) :l.any (heavy u m) =true:=List.any_eq_true.2 ⟨_,List.getElem_mem hk,hx⟩
theorem ref12_Light (w:World) (u k:Int) (A:Option Addr) (cap:Nat) (l:List Nd) (hS:Sl w w.heap.size encN A l) (hI:ints l) (hm:l.length≤maxLen) (ht: (totalOf l).1=sumR l) (h0:0≤sumR l) (h1:sumR l≤72057594037927935) (hk:1≤k) (hk2:k≤1048576) :
 Calls Tryz.prog 97 #[.agg #[.int .i64 u,.slice A l.length cap],.int .i64 k] w fun e w'=>e=.returned (.bool (lightOf u l k))∧Below w.heap.size w w':=by
 have HC:Hid (∀W,Sl W W.heap.size encN A l→Calls Tryz.prog 147 #[.agg #[.int .i64 u,.slice A l.length cap],.int .i64 k] W fun e w'=>e=.returned (.int .i64 (sumR l / k))∧Below W.heap.size W w'):=LH fun W hW=>by
  have:=ref12_Cap W u k A cap l hW hI hm (by omega) (by omega) hk hk2
  rwa [ht] at this
 have HS:=LH (hS.keep (B':=w.heap.size) (Nat.le_refl _) fun p hp=>((Below.refl w.heap.size w).alloc (Nat.le_refl _) (.cells #[.int .i64 u,.slice A l.length cap] 33)).cell hp);have HI:=LH hI;have HM:Hid (lightOf u l k= !l.any (heavy u (sumR l / k))):=LH rfl;unfold maxLen at hm;clear hS hI ht;generalize sumR l / k=m at HC HM
 go_enter Tryz.func97,Tryz.ntmps97
 go_wp2_with fail
 go_loopw [5] (fun i wr=>∃q:Nat,q≤l.length∧i=.int .i64 q∧(l.take q).any (heavy u m) =false∧Below w.heap.size w wr∧Below (w.heap.size+1) (w.alloc (.cells #[.int .i64 u,.slice A l.length cap] 33)) wr) (fun i _=>l.length - (intOf i).toNat)
 case atStart=>exact⟨0,by omega,rfl,rfl,bE,Below.refl _ _⟩
 case round=>
  obtain⟨q,hq,rfl,hR,hBw,hB⟩:=hrel;have HR:=LH hR;clear hR;have hs:=hB.size;simp only [World.size_alloc] at hs;have cb:=bC ((hB.block w.heap.size (by omega)).trans (heap_alloc_new w _));have zb:w.heap.size<wr.heap.size:=by omega
  by_cases hlt:q<l.length
  ·obtain⟨b,off,rfl,hb,hc⟩:=(HS.out.below (hB.mono (by omega))).at_ hlt
   have HSr:=LH ((HS.out.below (hB.mono (by omega))).keep (B':=wr.heap.size) (by omega) fun p hp=>rfl);have d0:=hc 0 (.int .i64 l[q].1) rfl;have d1:=hc 1 (.int .i64 l[q].2) rfl;simp only [Nat.add_zero] at d0;have hx:=(HI.out _ (List.getElem_mem hlt)).1;have HStep:=LH (light_step hlt HR.out);have HBad:=LH (light_bad (u:=u) (m:=m) hlt);have hzb:b<wr.heap.size:=by omega
   have i1: (q:Int) < (l.length:Int):=by omega
   obtain⟨x,hxe⟩ : ∃x,x=l[q]:=⟨_,rfl⟩;rw [←hxe] at d0 d1 hx HStep HBad;have HK:=LH (ref2_Kids · u x.1 hx.2);have HH:Hid (heavy u m x= ((kidsOf u x.1).2.2 && decide (m<x.2))):=LH rfl;generalize kidsOf u x.1=t at HK HH;obtain⟨t1,t2,t3⟩:=t;unfold endsV at HK;clear hc hxe hx
   cases t3
   ·have HF:=LH (HStep.out (by rw [HH.out];rfl))
    go_wp2_with fail;refine rX (by kernel_rfl) (by kernel_rfl) ?_
    repeat (go_big_quiet_step ((go_at_call 146;exact quiet_ext (HK.out _))))
    refine wpQuiet_nil ?_;intro w1 hb1;replace hb1:=bX hb1;have B1:Below w.heap.size w w1:=Below.then_ bE hb1;have s1:=B1.size;have z1_0:w.heap.size<w1.heap.size:=by have:=hb1.size;(try simp at this);omega
    have y1_0:w.heap.size≤w1.heap.size:=Nat.le_of_lt z1_0;have c1_0:=czB hb1 (w.heap.size);have f1_0:=fzB hb1 (w.heap.size);have z1_1:b<w1.heap.size:=by have:=hb1.size;(try simp at this);omega
    have y1_1:b≤w1.heap.size:=Nat.le_of_lt z1_1;have c1_1:=czB hb1 (b);have f1_1:=fzB hb1 (b);go_wp2_with fail;refine rX (by kernel_rfl) (by kernel_rfl) ?_
    repeat (go_big_quiet_step (fail))
    refine wpQuiet_nil ?_;intro w2 hb2;replace hb2:=bX hb2;have B2:Below w.heap.size w w2:=Below.then_ bE hb2;have s2:=B2.size;have z2_0:w.heap.size<w2.heap.size:=by have:=hb2.size;(try simp at this);omega
    have y2_0:w.heap.size≤w2.heap.size:=Nat.le_of_lt z2_0;have c2_0:=czB hb2 (w.heap.size);have f2_0:=fzB hb2 (w.heap.size);have z2_1:b<w2.heap.size:=by have:=hb2.size;(try simp at this);omega
    have y2_1:b≤w2.heap.size:=Nat.le_of_lt z2_1;have c2_1:=czB hb2 (b);have f2_1:=fzB hb2 (b);have hB2:Below (w.heap.size+1) (w.alloc (.cells #[.int .i64 u,.slice (some ⟨b,off,none⟩) l.length cap] 33)) w2:=hB.trans ((hb1.mono (by omega)).trans (hb2.mono (by omega)));go_wp2_with fail;go_roundw
    case rel=>exact⟨q+1,by omega,by go_num,HF.out,B2,hB2⟩
    case measure=>simp [intOf];omega
   ·by_cases hmx:m<x.2
    ·have HF:=LH (HBad.out (by rw [HH.out];simpa using hmx))
     go_wp2_with fail;refine rX (by kernel_rfl) (by kernel_rfl) ?_
     repeat (go_big_quiet_step ((go_at_call 146;exact quiet_ext (HK.out _))))
     refine wpQuiet_nil ?_;intro w1 hb1;replace hb1:=bX hb1;have B1:Below w.heap.size w w1:=Below.then_ bE hb1;have s1:=B1.size;have z1_0:w.heap.size<w1.heap.size:=by have:=hb1.size;(try simp at this);omega
     have y1_0:w.heap.size≤w1.heap.size:=Nat.le_of_lt z1_0;have c1_0:=czB hb1 (w.heap.size);have f1_0:=fzB hb1 (w.heap.size);have z1_1:b<w1.heap.size:=by have:=hb1.size;(try simp at this);omega
     have y1_1:b≤w1.heap.size:=Nat.le_of_lt z1_1;have c1_1:=czB hb1 (b);have f1_1:=fzB hb1 (b);have HS1:=LH (HSr.out.keep hb1.size fun p hp=>hb1.cell hp);go_wp2_with fail;refine rX (by kernel_rfl) (by kernel_rfl) ?_
     repeat (go_big_quiet_step ((go_at_call 147;exact quiet_ext (HC.out _ (HS1.out.keep (ext_below _ _).size fun p hp=>(ext_below _ _).cell hp)))))
     refine wpQuiet_nil ?_;intro w2 hb2;replace hb2:=bX hb2;have B2:Below w.heap.size w w2:=Below.then_ bE hb2;have s2:=B2.size;have z2_0:w.heap.size<w2.heap.size:=by have:=hb2.size;(try simp at this);omega
     have y2_0:w.heap.size≤w2.heap.size:=Nat.le_of_lt z2_0;have c2_0:=czB hb2 (w.heap.size);have f2_0:=fzB hb2 (w.heap.size);have z2_1:b<w2.heap.size:=by have:=hb2.size;(try simp at this);omega
     have y2_1:b≤w2.heap.size:=Nat.le_of_lt z2_1;have c2_1:=czB hb2 (b);have f2_1:=fzB hb2 (b);go_wp2_with fail;go_ret;exact⟨ret_bool (by rw [HM.out,HF.out];rfl),bE⟩
    ·have hmx':decide (m<x.2) =false:=by simpa using hmx
     have HF:=LH (HStep.out (by rw [HH.out,hmx'];rfl));go_wp2_with fail;refine rX (by kernel_rfl) (by kernel_rfl) ?_
     repeat (go_big_quiet_step ((go_at_call 146;exact quiet_ext (HK.out _))))
     refine wpQuiet_nil ?_;intro w1 hb1;replace hb1:=bX hb1;have B1:Below w.heap.size w w1:=Below.then_ bE hb1;have s1:=B1.size;have z1_0:w.heap.size<w1.heap.size:=by have:=hb1.size;(try simp at this);omega
     have y1_0:w.heap.size≤w1.heap.size:=Nat.le_of_lt z1_0;have c1_0:=czB hb1 (w.heap.size);have f1_0:=fzB hb1 (w.heap.size);have z1_1:b<w1.heap.size:=by have:=hb1.size;(try simp at this);omega
     have y1_1:b≤w1.heap.size:=Nat.le_of_lt z1_1;have c1_1:=czB hb1 (b);have f1_1:=fzB hb1 (b);have HS1:=LH (HSr.out.keep hb1.size fun p hp=>hb1.cell hp);go_wp2_with fail;refine rX (by kernel_rfl) (by kernel_rfl) ?_
     repeat (go_big_quiet_step ((go_at_call 147;exact quiet_ext (HC.out _ (HS1.out.keep (ext_below _ _).size fun p hp=>(ext_below _ _).cell hp)))))
     refine wpQuiet_nil ?_;intro w2 hb2;replace hb2:=bX hb2;have B2:Below w.heap.size w w2:=Below.then_ bE hb2;have s2:=B2.size;have z2_0:w.heap.size<w2.heap.size:=by have:=hb2.size;(try simp at this);omega
     have y2_0:w.heap.size≤w2.heap.size:=Nat.le_of_lt z2_0;have c2_0:=czB hb2 (w.heap.size);have f2_0:=fzB hb2 (w.heap.size);have z2_1:b<w2.heap.size:=by have:=hb2.size;(try simp at this);omega
     have y2_1:b≤w2.heap.size:=Nat.le_of_lt z2_1;have c2_1:=czB hb2 (b);have f2_1:=fzB hb2 (b);have hB2:Below (w.heap.size+1) (w.alloc (.cells #[.int .i64 u,.slice (some ⟨b,off,none⟩) l.length cap] 33)) w2:=hB.trans ((hb1.mono (by omega)).trans (hb2.mono (by omega)));go_wp2_with fail;go_roundw
     case rel=>exact⟨q+1,by omega,by go_num,HF.out,B2,hB2⟩
     case measure=>simp [intOf];omega
  ·obtain rfl:q=l.length:=by omega
   rw [List.take_length] at HR;have hkk:decide (1≤k∧k≤1048576) =true:=by simp [hk,hk2]
   have HK2:=LH hkk;clear hkk;go_wp2_with fail;refine(ref12_Is _ k).mono ?_;rintro e w1 ⟨rfl,hb1⟩;have B1:Below w.heap.size w w1:=Below.then_ bE hb1;have s1:=B1.size;rw [HK2.out];go_wp2_with fail;go_ret;exact⟨ret_bool (by rw [HM.out,HR.out];rfl),bE⟩
theorem ref13_Is (w:World) (l k K:Int) :Calls Tryz.prog 68 #[.agg #[.int .i64 l,.int .i64 k,.int .i64 K]] w fun e w'=>e=.returned (.bool (isDig l k K))∧Below w.heap.size w w':=by
 have HE:Hid (isDig l k K= (isPool K l && decide (1≤k∧k≤1048576))):=LH rfl;have HC:=LH (ref12_Is · k)
 cases hk:decide (1≤k∧k≤1048576)
 ·rw [hk] at HE HC
  clear hk
  go_enter Tryz.func68,Tryz.ntmps68
  go_wp2_with fail;refine(HC.out _).mono ?_;rintro e w1 ⟨rfl,hb1⟩;have B1:Below w.heap.size w w1:=Below.then_ bE hb1;have s1:=B1.size;have z1_0:w.heap.size<w1.heap.size:=by have:=hb1.size;(try simp at this);omega
  have y1_0:w.heap.size≤w1.heap.size:=Nat.le_of_lt z1_0;have c1_0:=czB hb1 (w.heap.size);have f1_0:=fzB hb1 (w.heap.size);go_wp2_with fail;go_ret;exact⟨ret_bool (by rw [HE.out];simp),bE⟩
 ·rw [hk] at HE HC
  clear hk
  go_enter Tryz.func68,Tryz.ntmps68
  go_wp2_with fail;refine(HC.out _).mono ?_;rintro e w1 ⟨rfl,hb1⟩;have B1:Below w.heap.size w w1:=Below.then_ bE hb1;have s1:=B1.size;have z1_0:w.heap.size<w1.heap.size:=by have:=hb1.size;(try simp at this);omega
  have y1_0:w.heap.size≤w1.heap.size:=Nat.le_of_lt z1_0;have c1_0:=czB hb1 (w.heap.size);have f1_0:=fzB hb1 (w.heap.size);go_wp2_with fail;refine(ref9_Is _ K l).mono ?_;rintro e w2 ⟨rfl,hb2⟩;have B2:Below w.heap.size w w2:=Below.then_ bE hb2;have s2:=B2.size;have z2_0:w.heap.size<w2.heap.size:=by have:=hb2.size;(try simp at this);omega
  have y2_0:w.heap.size≤w2.heap.size:=Nat.le_of_lt z2_0;have c2_0:=czB hb2 (w.heap.size);have f2_0:=fzB hb2 (w.heap.size);go_wp2_with fail;go_ret;exact⟨ret_bool (by rw [HE.out];simp),bE⟩
theorem ref13_New (w:World) (l k K:Int) :Calls Tryz.prog 85 #[.agg #[.int .i64 l,.int .i64 k,.int .i64 K]] w fun e w'=>e=.returned (.agg #[.int .i64 k,.int .i64 l,.slice none 0 0])∧Below w.heap.size w w':=by
 go_enter Tryz.func85,Tryz.ntmps85
 go_wp2_with fail;exact bR (v:=.agg #[.int .i64 k,.int .i64 l,.slice none 0 0]) (by simp only [results,Tryz.results85];go_simp) rfl ⟨rfl,bE⟩
def refDig (k l:Int) (A:Option Addr) (n cap:Nat) :Value:=.agg #[.int .i64 k,.int .i64 l,.slice A n cap]
def refLoadV (l k K:Int) (A:Option Addr) (r:List Nd) (cap:Nat) :Value:=if loadErr l k K r=0 then .tuple #[refDig k l A r.length cap,.int .i64 0] else .tuple #[refDig 0 0 none 0 0,.int .i64 (loadErr l k K r)]
theorem slice_of_trod {α:Type} [Inhabited α] {size:Nat} (E:Enc α size) (ok:α→Prop) {t e:TypeId} (ht: (Tryz.prog).underlying t=some (.slice e)) (hC: (Tryz.prog).cellsOf e=size) (hs:0<size)
 {H:Type} {enc:TypeId×Value→H} {w:World} {base:Nat} {spare:Nat→Bool} {held:Bool} {fuel:Nat} {cs:List Value} {x:DataW H×List MemPlace}
 (el: ∀(fuel:Nat) (cs:List Value) (x:DataW H×List MemPlace),DataW.trod enc Tryz.prog w base spare held fuel e cs=some x→∃o:α,cs=E.enc o∧ok o) (h:DataW.trod enc Tryz.prog w base spare held fuel t cs=some x) :
 ∃(l:List α) (A:Option Addr) (cap:Nat),cs= [.slice A l.length cap]∧Sl w w.heap.size E A l∧(∀o∈l,ok o)∧l.length≤maxLen:=by
 rcases Deep.open_slice ht h with ⟨hcs,_⟩ | ⟨a,len,cap,m,n,D,Pl,hcs,_,hl,hm,hmm,_,hx⟩
 ·exact⟨[],none,0,hcs,.nil,by simp,by simp⟩
 ·subst hcs
  have hle:len≤m:=by rw [hmm];split <;> omega
  have each: ∀i,i<len→∃o:α,ok o∧∀j u,(E.enc o)[j]? =some u→w.cell? (a.add (i*size+j)) =some u:=by
   intro i hi;obtain⟨cs',hc,ht'⟩:=hx i (by omega);rw [hC] at hc;obtain⟨o,rfl,hk⟩:=el _ _ _ ht';obtain⟨_,hcl,hat⟩:=World.cells?_some hc;refine⟨o,hk,fun j u hj=> ?_⟩;have hj6:j<size:=by have:=(List.getElem?_eq_some_iff.1 hj).1;rwa [E.len] at this
   rw [←Go.Deep.add_add,hat j hj6,hj]
  obtain⟨f,hF⟩:=Deep.choose_lt each;refine⟨(List.range len).map f,some a,cap,by simp,?_,?_,by simp;omega⟩
  ·by_cases h0:len=0
   ·subst h0;exact .inl rfl
   ·obtain⟨b,off,spot⟩:=a
    obtain⟨u0,hu0⟩ : ∃u,(E.enc (f 0))[0]? =some u:=⟨_,List.getElem?_eq_getElem (by rw [E.len];exact hs)⟩;have hc0:=(hF 0 (by omega)).2 0 _ hu0;have hspot:spot=none:=by simpa [Addr.add] using World.cell?_spot hc0
    subst hspot
    have hb:b<w.heap.size:=by
     simp only [add_plain,Nat.zero_mul,Nat.add_zero] at hc0;exact lt_of_cell hc0
    refine .inr ⟨b,off,rfl,hb,fun i x hi j u hj=> ?_⟩
    have hlt:i<len:=by
     have:=(List.getElem?_eq_some_iff.1 hi).1
     simpa using this
    simp [hlt] at hi
    subst hi;have:=(hF i hlt).2 j u hj;rw [add_plain,←Nat.add_assoc] at this;exact this
  ·intro o ho
   obtain⟨i,hi,rfl⟩:=List.mem_map.1 ho;exact(hF i (List.mem_range.1 hi)).1
theorem i64_of_wf {n:Int} (h: (Lit.int .i64 n).wf=true) :i64 n:=by
 simp only [Lit.wf,Bool.and_eq_true,decide_eq_true_eq] at h;have hmn:IntKind.i64.min= -9223372036854775808:=by decide
 have hmx:IntKind.i64.max=9223372036854775807:=by decide
 rw [hmn,hmx] at h;exact h
section
variable {H:Type} {enc:TypeId×Value→H} {w:World} {base:Nat} {spare:Nat→Bool} {held:Bool} {fuel:Nat} {cs:List Value} {x:DataW H×List MemPlace}
theorem conf_of_trod (h:DataW.trod enc Tryz.prog w base spare held fuel 23 cs=some x) : ∃l k K:Int,cs= [.int .i64 l,.int .i64 k,.int .i64 K]∧i64 l∧i64 k∧i64 K:=by
 obtain⟨xs,n,_,_,hlen,hxl,hf⟩:=DataW.trod_struct Tryz.underlying23 h;have hC: (Tryz.prog).cellsOf 23=3:=by kernel_rfl
 have hCi: (Tryz.prog).cellsOf 3=1:=by kernel_rfl
 rw [hC] at hlen
 match cs,hlen with
 | [c0,c1,c2],_=>
  match xs,hxl with
  | [y0,y1,y2],_=>
   have g0:DataW.trod enc Tryz.prog w base spare held n 3 (([c0,c1,c2].drop 0).take ((Tryz.prog).cellsOf 3)) =some y0:=hf 0 _ rfl;have g1:DataW.trod enc Tryz.prog w base spare held n 3 (([c0,c1,c2].drop 1).take ((Tryz.prog).cellsOf 3)) =some y1:=hf 1 _ rfl;have g2:DataW.trod enc Tryz.prog w base spare held n 3 (([c0,c1,c2].drop 2).take ((Tryz.prog).cellsOf 3)) =some y2:=hf 2 _ rfl;simp only [hCi] at g0 g1 g2;obtain⟨k,e0,_,k0⟩:=DataW.trod_int Tryz.underlying3 g0;obtain⟨i,e1,_,k1⟩:=DataW.trod_int Tryz.underlying3 g1;obtain⟨j,e2,_,k2⟩:=DataW.trod_int Tryz.underlying3 g2;simp at e0 e1 e2
   subst e0 e1 e2;exact⟨k,i,j,rfl,i64_of_wf k0,i64_of_wf k1,i64_of_wf k2⟩
end
def loadedV (l k K:Int) (A:Option Addr) (n cap:Nat) :Value:=.agg #[.int .i64 l,.int .i64 k,.int .i64 K,.slice A n cap]
end Go.Proofs.YtandlhihcnadmaaGreat
