/-
  Texts of this proof, one behind the other: Dense3, Probe4, Pool3, Probe5, Pool4, FoldW, Agenda, AgPut, AgPop, AgNew, MemIn, Parents, First, TabLaw, Made, Made2, Reach2, Table, Bag, BagPut, BagAdd, BagMake, Ref10, Ref10Put, Ref10Of, BagMade.
-/
import Derived.BigRegion
import Derived.Deep.DeepCutAuto
import Derived.Maps.OwnSet
import Derived.Carry
import Derived.BigQuiet
import Derived.OwnWalkIn
import Derived.Deep.RegionHeld3
import Derived.Deep.RegionLaw
import Derived.Deep.RegionWith
import Derived.Shelf.SlSorted.Search
import Derived.Shelf.Spec.SlicesInsert
import Derived.Test.YtmdidmclfbfmiaaGreatDoorS1
import Derived.Test.YtmdidmclfbfmiaaGreatDoorS2
import Derived.Test.YtmdidmclfbfmiaaGreatDoorS3
import Derived.Test.YtmdidmclfbfmiaaGreatDoorS4
set_option linter.unusedVariables false
set_option linter.unusedSimpArgs false
set_option maxRecDepth 100000
set_option maxHeartbeats 16000000
namespace Go.Proofs.YtmdidmclfbfmiaaGreatDoor
open Go.ChangeShapes Go.WideShapes Go.ChangeAt Go.RowKit
theorem isNode_nat' {l:Nat} {id:Int} (h:isNode l id=true) : ∃k:Nat,id=k∧1≤k∧k<2*2^l:=by
 obtain⟨n,x,hn,rfl,_,_,h1,h2⟩:=isNode_nat h;obtain rfl:n=l:=by omega
 exact⟨x,rfl,h1,by exact_mod_cast h2⟩
theorem getR_out {l:Nat} {r:List Nd} (hn: ∀x∈r,isNode l x.1=true) {id:Int} (h:isNode l id=false) :getR r id=0:=getR_none fun x hx he=>by
 have:=hn x hx;rw [he,h] at this
 cases this
theorem dense_Len (w:World) (g l:Nat) (r:List Nd) (F:Nat→Prop) (h:DenseAt w g l r F) :Calls Tryz.prog 259 #[.pointer (some ⟨g,0,none⟩)] w fun e w'=>e=.returned (.int .i64 r.length)∧Below w.heap.size w w':=by
 obtain⟨v,C,hh,_⟩:=h;have c:=bC hh;have z:=lB hh;clear hh
 go_enter Tryz.func259,Tryz.ntmps259
 go_wp2_with fail;go_ret;exact⟨rfl,bE⟩
theorem dense_Get (w:World) (g l:Nat) (r:List Nd) (F:Nat→Prop) (h:DenseAt w g l r F) (id:Int) (hn: ∀x∈r,isNode l x.1=true) :Calls Tryz.prog 210 #[.pointer (some ⟨g,0,none⟩),.int .i64 id] w fun e w'=>e=.returned (.int .i64 (getR r id))∧Below w.heap.size w w':=by
 obtain⟨v,C,hh,ho,hl,hcc,rfl⟩:=h;have cc:=bC hh;have zg:=lB hh;have H:=LH hh
 cases hN:isNode l id
 ·rw [getR_out hn hN]
  clear hh ho hl hcc;have HN:=LH hN;clear hN hn
  go_enter Tryz.func210,Tryz.ntmps210
  go_wp2_with fail;refine(twig_Right _ l id).mono ?_;rintro e w1 ⟨rfl,hb1⟩;have B1:Below w.heap.size w w1:=Below.then_ bE hb1;have s1:=B1.size;rw [HN.out];go_wp2_with fail;go_ret;exact⟨rfl,bE⟩
 ·obtain⟨k,rfl,hk1,hk2⟩:=isNode_nat' hN
  obtain⟨b,off,cap,rfl,hcap⟩:=own_at0 ho (by omega);have d:=ho.slT.cell_at (k:=k) (by omega) 0 (.int .i64 C[k]) rfl;have hck:=hcc k (by omega);rw [List.getElem?_eq_getElem (by omega)] at hck
  injection hck with hck
  rw [hck] at d;simp only [Nat.mul_one,Nat.add_zero] at d;have zb:=(ho.lt b rfl).2;have i1: (k:Int) < (C.length:Int):=by omega
  generalize getR r k=n at d⊢;have HN:=LH hN;clear hh ho hl hcc hck hn hN
  go_enter Tryz.func210,Tryz.ntmps210
  go_wp2_with fail;refine(twig_Right _ l k).mono ?_;rintro e w1 ⟨rfl,hb1⟩;have B1:Below w.heap.size w w1:=Below.then_ bE hb1;have s1:=B1.size;rw [HN.out];have k1:=bB H.out hb1;have cc1:=bC k1;have d1:=(hb1.cell (p:=⟨b,off+k,none⟩) zb).trans d;have zg1:=lB k1;clear cc d k1;go_wp2_with fail;go_ret;exact⟨rfl,bE⟩
theorem len_del {r:List Nd} (id:Int) : ((delR r id).length:Int) =if getR r id=0∧(∀x∈r,x.1≠id) then (r.length:Int) else (r.length:Int) - (if ∃x∈r,x.1=id then 1 else 0):=by
 induction r with
 |nil=>simp [delR,getR]
 |cons x r ih=>
  simp only [delR];by_cases hx:x.1=id
  ·rw [if_pos hx]
   have h1: ¬(getR (x :: r) id=0∧∀y∈x :: r,y.1≠id):=fun h=>h.2 x (by simp) hx;have h2: ∃y∈x :: r,y.1=id:=⟨x,by simp,hx⟩;rw [if_neg h1,if_pos h2];simp
  ·rw [if_neg hx]
   have e1:getR (x :: r) id=getR r id:=by simp only [getR];rw [if_neg hx]
   have e2: (∀y∈x :: r,y.1≠id)↔∀y∈r,y.1≠id:=by simp [hx]
   have e3: (∃y∈x :: r,y.1=id)↔∃y∈r,y.1=id:=by simp [hx]
   simp only [List.length_cons,e1,e2,e3]
   push_cast
   rw [ih]
   split <;> omega
theorem len_del_pos {r:List Nd} {id:Int} (h:getR r id≠0) : ((delR r id).length:Int) = (r.length:Int) - 1:=by
 rw [len_del]
 have: ∃x∈r,x.1=id:=by
  rcases Classical.em (∃x∈r,x.1=id) with h'|h'
  ·exact h'
  ·exact absurd (getR_none fun x hx he=>h' ⟨x,hx,he⟩) h
 rw [if_neg (fun h'=>h h'.1),if_pos this]
theorem dense_taken {w:World} {g l b off cap k:Nat} {r r':List Nd} {C:List Int} {u m:Int} {v0 v1 v2:Value} (hh:w.heap[g]? =some (.cells #[v0,v1,v2,.slice (some ⟨b,off,none⟩) C.length cap] 254 (0,0)))
 (ho:Own w 0 3 encZ (.slice (some ⟨b,off,none⟩) C.length cap) C) (hl:C.length=2*2^l) (hc: ∀i:Nat,i<C.length→C[i]? =some (getR r i)) (hk:k<C.length)
 (hr: ∀j:Int,getR r' j=if j=k then 0 else getR r j) (hu: (r'.length:Int) =u) (hm:sumR r'=m) (hv0:v0=.int .i64 l:=by rfl) :
 DenseAt (((w.setCell ⟨b,off+k,none⟩ (.int .i64 0)).setCell ⟨g,1,none⟩ (.int .i64 u)).setCell ⟨g,2,none⟩ (.int .i64 m)) g l r' (foot2 g (.slice (some ⟨b,off,none⟩) C.length cap)):=by
 have hne:=ho.ne_block hh (by decide);have hgb:g≠b:=fun he=>hne (by rw [he];rfl);have o1:=ho.setElem k 0 hk (by decide) (.int .i64 0) 0 rfl;rw [Nat.mul_one,Nat.add_zero] at o1;subst hv0;have k1: (w.setCell ⟨b,off+k,none⟩ (.int .i64 0)).heap[g]? =_:=(Below.heap_setCell _ _ _ _ hgb).trans hh;have k2:=zH (i:=1) k1 (.int .i64 u);have o2:=o1.setCell (p:=⟨g,1,none⟩) (o1.ne_block k1 (by decide)) (.int .i64 u);have k3:=zH (i:=2) k2 (.int .i64 m);have o3:=o2.setCell (p:=⟨g,2,none⟩) (o2.ne_block k2 (by decide)) (.int .i64 m);subst hu hm;refine⟨_,C.set k 0,by rw [k3];rfl,o3,by simpa using hl,fun i hi=> ?_,rfl⟩;rw [List.length_set] at hi;rw [List.getElem?_set];by_cases hik:k=i
 ·subst hik
  rw [if_pos rfl,if_pos hi,hr,if_pos rfl]
 ·rw [if_neg hik,hc i hi,hr,if_neg (by omega)]
theorem del_none' {r:List Nd} {id:Int} (h: ∀x∈r,x.1≠id) :delR r id=r:=by
 induction r with
 |nil=>rfl
 |cons x r ih=>
  simp only [delR];rw [if_neg (h x (by simp)),ih fun y hy=>h y (by simp [hy])]
theorem del_zero {r:List Nd} (hr:Roll r) {id:Int} (h:getR r id=0) :delR r id=r:=del_none' fun x hx he=>by
 have:=getR_mem hr hx;have:=(hr.2 x hx).2;rw [he] at*;omega
theorem dense_Take (w:World) (g l:Nat) (r:List Nd) (F:Nat→Prop) (h:DenseAt w g l r F) (hf:Fits l r) (id:Int) (hn: ∀x∈r,isNode l x.1=true) :
 Calls Tryz.prog 331 #[.pointer (some ⟨g,0,none⟩),.int .i64 id] w fun e w'=>e=.returned (.int .i64 (getR r id))∧DenseAt w' g l (delR r id) F∧Turn F w w':=by
 have HG:=LH (dense_Get w g l r F h id hn);by_cases h0:getR r id=0
 ·rw [h0] at HG⊢
  rw [del_zero hf.roll h0];have H:=LH h;clear h hf hn h0
  go_enter Tryz.func331,Tryz.ntmps331
  go_wp2_with fail;refine HG.out.mono ?_;rintro e w1 ⟨rfl,hb1⟩;have HB:=LH hb1;go_wp2_with fail;go_ret;exact⟨rfl,H.out.below HB.out,.of_below HB.out⟩
 ·have hN:isNode l id=true:=by
   cases hN:isNode l id
   ·exact absurd (getR_out hn hN) h0
   ·rfl
  obtain⟨k,rfl,hk1,hk2⟩:=isNode_nat' hN;have hp:=getR_nonneg hf.roll k;have hle:=getR_le_sum hf.roll k;have hs:=hf.sum;have hlen:=len_del_pos h0;have hsum:=sumR_del hf.roll k;have hls:=len_le_sum hf.roll;have hgd:=getR_del hf.roll k;have hpos:0<getR r k:=by omega
  obtain⟨v,C,hh,ho,hl,hcc,rfl⟩:=h;obtain⟨b,off,cap,rfl,hcap⟩:=own_at0 ho (by omega);have H:=LH hh;have HO:=LH ho;have HS:=LH (And.intro hl (And.intro hcc (And.intro hgd (And.intro hlen hsum))));have zb:=(ho.lt b rfl).2;have i1: (k:Int) < (C.length:Int):=by omega
  have hkl:k<C.length:=by omega
  have hrl:0≤(r.length:Int) - 1:=by have:=(delR r k).length;omega
  clear hh ho hgd hlen hsum hf hn hN hl hcc;generalize getR r k=n at HG hp hle h0 hpos HS⊢
  go_enter Tryz.func331,Tryz.ntmps331
  go_wp2_with fail;refine HG.out.mono ?_;rintro e w1 ⟨rfl,hb1⟩;have HB:=LH hb1;have k1:=bB H.out hb1;have o1:=HO.out.below hb1;have cc1:=bC k1;have cf1:=bF k1;have f1:=o1.frozen (off+k);have zg1:=lB k1;have zb1:=(o1.lt b rfl).2;have hnb:g≠b:=fun he=>o1.ne_block k1 (by decide) (by rw [he];rfl);have hnb':b≠g:=fun he=>hnb he.symm;have d1:=o1.slT.cell_at (k:=k) (by omega) 0 (.int .i64 C[k]) rfl;simp only [Nat.mul_one,Nat.add_zero] at d1;have K1:=LH k1;have O1:=LH o1;clear k1 o1 hb1;go_wp2_with fail;go_ret;refine⟨rfl,?_,?_⟩
  ·exact dense_taken (r':=delR r k) K1.out O1.out HS.out.1 HS.out.2.1 hkl HS.out.2.2.1 HS.out.2.2.2.1 HS.out.2.2.2.2
  ·refine Turn.setCell (Turn.setCell (Turn.setCell (.of_below HB.out) ?_ _) ?_ _) ?_ _
   ·exact .inl (.inr rfl)
   ·exact .inl (.inl rfl)
   ·exact .inl (.inl rfl)
theorem mask_any (i:Nat) (hi:i≤62) (x:Int) :bits .and .i64 x (2^i - 1) =x % 2^i:=by
 have hi64:i+ (64 - i) =64:=by omega
 have hd: (2:Int) ^i ∣ 2^64:=⟨2^ (64 - i),by rw [←Int.pow_add,hi64]⟩;have hpos:0<2^i:=Nat.two_pow_pos i
 have hc: ((2:Int) ^i - 1) = ((2^i - 1:Nat) :Int):=by
  rw [Int.natCast_sub hpos];simp
 have e0:bits .and .i64 x ((2^i - 1:Nat) :Int) =IntKind.i64.wrap (((BitVec.ofInt 64 x) &&& (BitVec.ofInt 64 ((2^i - 1:Nat) :Int))).toNat:Int):=rfl;rw [hc,e0,BitVec.toNat_and,BitVec.toNat_ofInt,BitVec.ofInt_natCast,BitVec.toNat_ofNat]
 have hle:2^i≤4611686018427387904:=by
  have:=Nat.pow_le_pow_right (n:=2) (by decide) hi
  simpa using this
 have hm: (2^i - 1) % 2^64=2^i - 1:=Nat.mod_eq_of_lt (by
  have: (2:Nat) ^64=18446744073709551616:=by decide
  rw [this];generalize 2^i=p at*;omega)
 rw [hm,Nat.and_two_pow_sub_one_eq_mod]
 have e: (((x % (2^64:Nat)).toNat % 2^i:Nat) :Int) =x % 2^i:=by
  have h64: ((2^64:Nat) :Int) =2^64:=Int.natCast_pow 2 64;have hn: (0:Int)≤x % ((2^64:Nat) :Int):=Int.emod_nonneg _ (Int.ne_of_gt (Int.natCast_pos.2 (Nat.two_pow_pos 64)));have t:=Int.toNat_of_nonneg hn;rw [Int.natCast_emod,t,h64];have p2: ((2^i:Nat) :Int) =2^i:=Int.natCast_pow 2 i;rw [p2];exact Int.emod_emod_of_dvd x hd
 rw [e];have h0:=Int.emod_nonneg x (show (2:Int) ^i≠0 from Int.ne_of_gt (Int.pow_pos (by decide)));have h1:=Int.emod_lt_of_pos x (show (0:Int) <2^i from Int.pow_pos (by decide))
 have h2: (2:Int) ^i≤4611686018427387904:=by
  have h62: (2:Int) ^62=4611686018427387904:=by decide
  rw [←h62];exact pow_le' hi
 refine wraps_i64 _ h0 ?_;have: (2:Int) ^63=9223372036854775808:=by decide
 rw [this];generalize x % 2^i=y at*;generalize (2:Int) ^i=p at*;omega
theorem way_mask (i j n b:Nat) (hn:n=2^b) (hb:b≤40) (hi:i<n) (hj:j<n) :bits .and .i64 ((j:Int) - (i:Int)) ((n:Int) - 1) = (wayOf n i j:Nat):=by
 have e: ((n:Int) - 1) =2^b - 1:=by rw [hn];push_cast;rfl
 rw [e,mask_any b (by omega)];unfold wayOf;rw [Int.natCast_emod,Int.natCast_sub (by omega),Int.natCast_add,hn]
 push_cast
 rw [show (j:Int) +2^b - i= (j - i) +2^b by omega,Int.add_emod_right]
theorem probe_way (w:World) (g n b i j:Nat) (cs:Array Value) (A:Option Addr) (cap:Nat) (hh:w.heap[g]? =some (.cells cs 256 (0,0))) (hv:cs[4]? =some (.slice A n cap)) (hn:n=2^b) (hb:b≤35) (hi:i<n) (hj:j<n) :
 Calls Tryz.prog 334 #[.pointer (some ⟨g,0,none⟩),.int .i64 i,.int .i64 j] w fun e w'=>e=.returned (.int .i64 (wayOf n i j:Nat))∧Below w.heap.size w w':=by
 have c:=(bC hh 4).trans hv;have hN:n≤34359738368:=by rw [hn];have:=Nat.pow_le_pow_right (n:=2) (by decide) hb;simpa using this
 have hp:0<n:=by rw [hn];exact Nat.two_pow_pos b
 have HN:=LH hn;clear hh hv hn
 go_enter Tryz.func334,Tryz.ntmps334
 go_wp2_with fail;go_ret;exact⟨ret_int (way_mask i j n b HN.out (by omega) (by omega) (by omega)),bE⟩
theorem probe_Len (w:World) (g l:Nat) (r:List Nd) (F:Nat→Prop) (h:ProbeAt w g l r F) :Calls Tryz.prog 260 #[.pointer (some ⟨g,0,none⟩)] w fun e w'=>e=.returned (.int .i64 r.length)∧Below w.heap.size w w':=by
 obtain⟨v,S,b,hh,_⟩:=h;have c:=bC hh;have z:=lB hh;clear hh
 go_enter Tryz.func260,Tryz.ntmps260
 go_wp2_with fail;go_ret;exact⟨rfl,bE⟩
theorem probe_Get (w:World) (g l:Nat) (r:List Nd) (F:Nat→Prop) (h:ProbeAt w g l r F) (hl:l≤48) (id:Int) (hn: ∀x∈r,isNode l x.1=true) :Calls Tryz.prog 211 #[.pointer (some ⟨g,0,none⟩),.int .i64 id] w fun e w'=>e=.returned (.int .i64 (getR r id))∧Below w.heap.size w w':=by
 obtain⟨v,S,b,hh,ho,hI,hq3,hq34,hfree,rfl⟩:=h
 cases hN:isNode l id
 ·rw [getR_out hn hN]
  have HN:=LH hN;have H:=LH hh;clear hh ho hI hN hn hfree
  go_enter Tryz.func211,Tryz.ntmps211
  go_wp2_with fail;refine(probe_right _ g l _ id H.out rfl).mono ?_;rintro e w1 ⟨rfl,hb1⟩;have B1:Below w.heap.size w w1:=Below.then_ bE hb1;have s1:=B1.size;rw [HN.out];go_wp2_with fail;go_ret;exact⟨rfl,bE⟩
 ·have hid:=isNode_lt hN
  have hkb:id≤562949953421312:=by have:=pow_48 hl;have h3:=hid.2;omega
  have hid1:=hid.1;obtain⟨sb,off,cap,rfl,hcap⟩:=own_at0 ho (by rw [hI.len];exact Nat.two_pow_pos b);have hm:r.length<2^b:=by have:=Nat.two_pow_pos b;omega
  have hl:=hI.len;have hSl:S.length≤34359738368:=by rw [hl];have:=Nat.pow_le_pow_right (n:=2) (by decide) (show b≤35 by omega);simpa using this
  have cc:=bC hh;have H:=LH hh;have HO:=LH ho;have HI:=LH hI;have HF:=LH (And.intro hm (And.intro hfree hl));have HN:=LH hN;have HG:=LH (fun i d (hL:LookAt S b id i d)=>hL.get hI);generalize getR r id=n at HG⊢;clear hh ho hI hfree hl hm hN hn hid cc
  go_enter Tryz.func211,Tryz.ntmps211
  go_wp2_with fail;refine(probe_right _ g l _ id H.out rfl).mono ?_;rintro e w1 ⟨rfl,hb1⟩;have B1:Below w.heap.size w w1:=Below.then_ bE hb1;have s1:=B1.size;rw [HN.out];have k1:=bB H.out hb1;have o1:=HO.out.below hb1;have K1:=LH k1;have O1:=LH o1;clear k1 o1;go_wp2_with fail;refine(probe_look _ g b sb off _ cap _ _ _ S r id K1.out O1.out HI.out HF.out.1 hq3 (by omega) hid1 hkb).mono ?_;rintro e w3 ⟨i,d,rfl,hL,hb3⟩;have B3:Below w.heap.size w w3:=Below.then_ bE hb3;have s3:=B3.size;have k3:=bB K1.out hb3;have o3:=O1.out.below hb3;have cc3:=bC k3;have hil:i<S.length:=by rw [HF.out.2.2];exact hL.i_lt
  obtain⟨x,hx,hx2,_⟩:=HG.out _ _ hL;have d1:=o3.slT.cell_at hil 1 (.int .i64 S[i].2) rfl;rw [List.getElem?_eq_getElem hil] at hx
  injection hx with hx
  rw [hx,hx2] at d1;have zg3:=lB k3;have zb3:=(o3.lt _ rfl).2;clear hL hx hx2 k3 o3 hb3 K1 O1;have hil2: (i:Int) < (S.length:Int):=by omega
  go_wp2_with fail;go_ret;exact⟨rfl,bE⟩
theorem PoolAt.l_le {w:World} {g K l:Nat} {r:List Nd} {F:Nat→Prop} (h:PoolAt w g K l r F) :1≤l∧l≤48:=⟨h.1,h.2.1⟩
theorem pool_Len (w:World) (g K l:Nat) (r:List Nd) (F:Nat→Prop) (h:PoolAt w g K l r F) :Calls Tryz.prog 212 #[.pointer (some ⟨g,0,none⟩)] w fun e w'=>e=.returned (.int .i64 (r.length))∧Below w.heap.size w w':=by
 have hn:=h.fits.nodes h.l_le;obtain⟨h1,h2,h3,p,F0,rfl,h4⟩:=h;rcases h4 with ⟨rfl,h16,hh,hd⟩ | ⟨rfl,hh,hd⟩
 ·have H:=LH hh
  have HC:=LH (fun W (h:DenseAt W p l r F0)=>dense_Len W p l r F0 h);have HD:=LH hd;clear hh hd hn
  go_enter Tryz.func212,Tryz.ntmps212
  go_wp2_with fail;refine(pool_isArray _ g p _ H.out).mono ?_;rintro e w1 ⟨rfl,hb1⟩;have k1:=bB H.out hb1;have c1:=bC k1;have z1:=lB k1;have D1:=LH (HD.out.below hb1);clear k1;go_wp2_with fail;refine(HC.out _ D1.out).mono ?_;rintro e w2 ⟨rfl,hb2⟩;have HB2:=LH (hb1.trans (hb2.mono hb1.size));clear hb2;go_wp2_with fail;go_ret;exact⟨rfl,HB2.out⟩
 ·have H:=LH hh
  have HC:=LH (fun W (h:ProbeAt W p l r F0)=>probe_Len W p l r F0 h);have HD:=LH hd;clear hh hd hn
  go_enter Tryz.func212,Tryz.ntmps212
  go_wp2_with fail;refine(pool_isArray_no _ g _ H.out).mono ?_;rintro e w0 ⟨rfl,hb0⟩;have K0:=LH (bB H.out hb0);go_wp2_with fail;refine(pool_inner _ g _ _ K0.out).mono ?_;rintro e w1 ⟨rfl,hb1'⟩;have hb1:=hb0.trans (hb1'.mono hb0.size);have D1:=LH (HD.out.below hb1);clear hb0 hb1' K0;go_wp2_with fail;refine(HC.out _ D1.out).mono ?_;rintro e w2 ⟨rfl,hb2⟩;have HB2:=LH (hb1.trans (hb2.mono hb1.size));clear hb2;go_wp2_with fail;go_ret;exact⟨rfl,HB2.out⟩
theorem pool_Get (w:World) (g K l:Nat) (r:List Nd) (F:Nat→Prop) (h:PoolAt w g K l r F) (id:Int) :Calls Tryz.prog 165 #[.pointer (some ⟨g,0,none⟩),.int .i64 id] w fun e w'=>e=.returned (.int .i64 (getR r id))∧Below w.heap.size w w':=by
 have hn:=h.fits.nodes h.l_le;obtain⟨h1,h2,h3,p,F0,rfl,h4⟩:=h;rcases h4 with ⟨rfl,h16,hh,hd⟩ | ⟨rfl,hh,hd⟩
 ·have H:=LH hh
  have HC:=LH (fun W (h:DenseAt W p l r F0)=>dense_Get W p l r F0 h id hn);have HD:=LH hd;clear hh hd hn
  go_enter Tryz.func165,Tryz.ntmps165
  go_wp2_with fail;refine(pool_isArray _ g p _ H.out).mono ?_;rintro e w1 ⟨rfl,hb1⟩;have k1:=bB H.out hb1;have c1:=bC k1;have z1:=lB k1;have D1:=LH (HD.out.below hb1);clear k1;go_wp2_with fail;refine(HC.out _ D1.out).mono ?_;rintro e w2 ⟨rfl,hb2⟩;have HB2:=LH (hb1.trans (hb2.mono hb1.size));clear hb2;go_wp2_with fail;go_ret;exact⟨rfl,HB2.out⟩
 ·have H:=LH hh
  have HC:=LH (fun W (h:ProbeAt W p l r F0)=>probe_Get W p l r F0 h h2 id hn);have HD:=LH hd;clear hh hd hn
  go_enter Tryz.func165,Tryz.ntmps165
  go_wp2_with fail;refine(pool_isArray_no _ g _ H.out).mono ?_;rintro e w0 ⟨rfl,hb0⟩;have K0:=LH (bB H.out hb0);go_wp2_with fail;refine(pool_inner _ g _ _ K0.out).mono ?_;rintro e w1 ⟨rfl,hb1'⟩;have hb1:=hb0.trans (hb1'.mono hb0.size);have D1:=LH (HD.out.below hb1);clear hb0 hb1' K0;go_wp2_with fail;refine(HC.out _ D1.out).mono ?_;rintro e w2 ⟨rfl,hb2⟩;have HB2:=LH (hb1.trans (hb2.mono hb1.size));clear hb2;go_wp2_with fail;go_ret;exact⟨rfl,HB2.out⟩
theorem step_zero {n h:Nat} (hh:h<n) :step n h 0=h:=by unfold step;rw [Nat.add_zero,Nat.mod_eq_of_lt hh]
theorem probe_Take_none (w:World) (g l:Nat) (r:List Nd) (F:Nat→Prop) (h:ProbeAt w g l r F) (hl:l≤48) (id:Int) (hn: ∀x∈r,isNode l x.1=true) (h0:getR r id=0) :
 Calls Tryz.prog 332 #[.pointer (some ⟨g,0,none⟩),.int .i64 id] w fun e w'=>e=.returned (.int .i64 0)∧Below w.heap.size w w':=by
 obtain⟨v,S,b,hh,ho,hI,hq3,hq34,hfree,rfl⟩:=h
 cases hN:isNode l id
 ·have HN:=LH hN
  have H:=LH hh;clear hh ho hI hN hn hfree
  go_enter Tryz.func332,Tryz.ntmps332
  go_wp2_with fail;refine(probe_right _ g l _ id H.out rfl).mono ?_;rintro e w1 ⟨rfl,hb1⟩;have B1:Below w.heap.size w w1:=Below.then_ bE hb1;have s1:=B1.size;rw [HN.out];go_wp2_with fail;go_ret;exact⟨rfl,bE⟩
 ·have hid:=isNode_lt hN
  have hkb:id≤562949953421312:=by have:=pow_48 hl;have h3:=hid.2;omega
  have hid1:=hid.1;obtain⟨sb,off,cap,rfl,hcap⟩:=own_at0 ho (by rw [hI.len];exact Nat.two_pow_pos b);have hm:r.length<2^b:=by have:=Nat.two_pow_pos b;omega
  have hl:=hI.len;have hSl:S.length≤34359738368:=by rw [hl];have:=Nat.pow_le_pow_right (n:=2) (by decide) (show b≤35 by omega);simpa using this
  have H:=LH hh;have HO:=LH ho;have HI:=LH hI;have HF:=LH (And.intro hm (And.intro hfree hl));have HN:=LH hN;have HG:=LH (fun i d (hL:LookAt S b id i d)=>hL.get hI);rw [h0] at HG;clear hh ho hI hfree hl hm hN hn hid h0
  go_enter Tryz.func332,Tryz.ntmps332
  go_wp2_with fail;refine(probe_right _ g l _ id H.out rfl).mono ?_;rintro e w1 ⟨rfl,hb1⟩;have B1:Below w.heap.size w w1:=Below.then_ bE hb1;have s1:=B1.size;rw [HN.out];have k1:=bB H.out hb1;have o1:=HO.out.below hb1;have K1:=LH k1;have O1:=LH o1;clear k1 o1;go_wp2_with fail;refine(probe_look _ g b sb off _ cap _ _ _ S r id K1.out O1.out HI.out HF.out.1 hq3 (by omega) hid1 hkb).mono ?_;rintro e w3 ⟨i,d,rfl,hL,hb3⟩;have B3:Below w.heap.size w w3:=Below.then_ bE hb3;have s3:=B3.size;have k3:=bB K1.out hb3;have o3:=O1.out.below hb3;have cc3:=bC k3;have hil:i<S.length:=by rw [HF.out.2.2];exact hL.i_lt
  obtain⟨x,hx,hx2,_⟩:=HG.out _ _ hL;have d1:=o3.slT.cell_at hil 1 (.int .i64 S[i].2) rfl;rw [List.getElem?_eq_getElem hil] at hx
  injection hx with hx
  rw [hx,hx2] at d1;have zg3:=lB k3;have zb3:=(o3.lt _ rfl).2;clear hL hx hx2 k3 o3 hb3 K1 O1;have hil2: (i:Int) < (S.length:Int):=by omega
  go_wp2_with fail;go_ret;exact⟨rfl,bE⟩
theorem del_less {b i t E p n:Nat} (hi:i<2^b) (ht:t<E) (hE:E<2^b) (hp:p=step (2^b) i t) (hn:n=2^b) :E - wayOf (2^b) i (intOf (.int .i64 (((p:Int) +1) % (n:Int)))).toNat<E - wayOf (2^b) i (intOf (.int .i64 (p:Int))).toNat:=by
 have e1: (intOf (.int .i64 (((p:Int) +1) % (n:Int)))).toNat= (p+1) % n:=by
  show (((p:Int) +1) % (n:Int)).toNat=_
  rw [show ((p:Int) +1) % (n:Int) = (((p+1) % n:Nat) :Int) by push_cast;rfl,Int.toNat_natCast]
 have e2: (intOf (.int .i64 (p:Int))).toNat=p:=Int.toNat_natCast p;rw [e1,e2,hn,hp,step_succ (Nat.two_pow_pos b),way_of hi (by omega),way_of hi (by omega)];omega
theorem probe_taken {w:World} {g l b sb off cap n:Nat} {r' S:List Nd} {u m:Int} {v2 v3:Value} (hh:w.heap[g]? =some (.cells #[.int .i64 l,.int .i64 b,v2,v3,.slice (some ⟨sb,off,none⟩) n cap] 256 (0,0)))
 (ho:Own w 0 216 encN (.slice (some ⟨sb,off,none⟩) n cap) S) (hI:PInv b S r') (h3:3≤b) (h34:b≤34) (hfree:2*r'.length≤2^b) (hu: (r'.length:Int) =u) (hm:sumR r'=m) :
 ProbeAt ((w.setCell ⟨g,2,none⟩ (.int .i64 u)).setCell ⟨g,3,none⟩ (.int .i64 m)) g l r' (foot2 g (.slice (some ⟨sb,off,none⟩) n cap)):=by
 have k1:=zH (i:=2) hh (.int .i64 u);have o1:=ho.setCell (p:=⟨g,2,none⟩) (ho.ne_block hh (by decide)) (.int .i64 u);have k2:=zH (i:=3) k1 (.int .i64 m);have o2:=o1.setCell (p:=⟨g,3,none⟩) (o1.ne_block k1 (by decide)) (.int .i64 m);subst hm hu;exact⟨_,S,b,by rw [k2];rfl,o2,hI,h3,h34,hfree,rfl⟩
theorem probe_Take_some (w:World) (g l:Nat) (r:List Nd) (F:Nat→Prop) (h:ProbeAt w g l r F) (hf:Fits l r) (hl:l≤48) (id:Int) (hn: ∀x∈r,isNode l x.1=true) (h0:getR r id≠0) :
 Calls Tryz.prog 332 #[.pointer (some ⟨g,0,none⟩),.int .i64 id] w fun e w'=>e=.returned (.int .i64 (getR r id))∧ProbeAt w' g l (delR r id) F∧Turn F w w':=by
 have hN:isNode l id=true:=by
  cases hN:isNode l id
  ·exact absurd (getR_out hn hN) h0
  ·rfl
 have hp:=getR_nonneg hf.roll id;have hle:=getR_le_sum hf.roll id;have hs:=hf.sum;have hlen:=len_del_pos h0;have hsum:=sumR_del hf.roll id;have hls:=len_le_sum hf.roll;have hpos:0<getR r id:=by omega
 have hperm:=delR_perm hf.roll h0;have hroll:=hf.roll.del id
 have hids: ∀x∈delR r id,1≤x.1∧x.1≤562949953421312:=fun x hx=>by
  have h1:=isNode_lt (hn x (delR_sub hx));have:=pow_48 hl;omega
 obtain⟨v,S0,b,hh,ho,hI,hq3,hq34,hfree,rfl⟩:=h;have hid:=isNode_lt hN;have hkb:id≤562949953421312:=by have:=pow_48 hl;have h3:=hid.2;omega
 have hid1:=hid.1;obtain⟨sb,off,cap,rfl,hcap⟩:=own_at0 ho (by rw [hI.len];exact Nat.two_pow_pos b);have hm:r.length<2^b:=by have:=Nat.two_pow_pos b;omega
 have hl2:=hI.len;have hSl:S0.length≤34359738368:=by rw [hl2];have:=Nat.pow_le_pow_right (n:=2) (by decide) (show b≤35 by omega);simpa using this
 have hrl:1≤(r.length:Int):=by have: (0:Int)≤((delR r id).length:Int):=by omega
                               omega
 have H:=LH hh;have HO:=LH ho;have HI:=LH hI;have HF:=LH (And.intro hm (And.intro hfree hl2));have HL2:=LH hl2;have HN:=LH hN;have HM:=LH (And.intro hlen (And.intro hsum (And.intro hperm (And.intro hroll hids))));have HG:=LH (fun i d (hL:LookAt S0 b id i d)=>hL.hit hI h0);have hs0:0≤sumR r - getR r id:=by omega
 have hs1:sumR r≤72057594037927935:=hs;generalize getR r id=n at HM HG hp hle h0 hpos hs0⊢;clear hl2 hh ho hI hfree hm hN hn hid hlen hsum hperm hroll hids hf hs
 go_enter Tryz.func332,Tryz.ntmps332
 go_wp2_with fail;refine(probe_right _ g l _ id H.out rfl).mono ?_;rintro e w1 ⟨rfl,hb1⟩;have B1:Below w.heap.size w w1:=Below.then_ bE hb1;have s1:=B1.size;rw [HN.out];have K1:=LH (bB H.out hb1);have O1:=LH (HO.out.below hb1);go_wp2_with fail;refine(probe_look _ g b sb off _ cap _ _ _ S0 r id K1.out O1.out HI.out HF.out.1 hq3 (by omega) hid1 hkb).mono ?_;rintro e w3 ⟨i,d,rfl,hL,hb3⟩;have B3:Below w.heap.size w w3:=Below.then_ bE hb3;have s3:=B3.size;have k3:=bB K1.out hb3;have o3:=O1.out.below hb3;have cc3:=bC k3;have cf3:=bF k3;have hil:i<S0.length:=by rw [HF.out.2.2];exact hL.i_lt
 have hx:=HG.out _ _ hL;have d1:=o3.slT.cell_at hil 1 (.int .i64 S0[i].2) rfl;have d0:=o3.slT.cell_at hil 0 (.int .i64 S0[i].1) rfl;have HX:=LH hx;rw [List.getElem?_eq_getElem hil] at hx
 injection hx with hx
 rw [hx] at d1 d0;simp only [Nat.add_zero] at d0;have fb:=o3.frozen;have zg3:=lB k3;have zb3:=(o3.lt _ rfl).2;have hnb:g≠sb:=fun he=>o3.ne_block k3 (by decide) (by rw [he];rfl);have T3:Turn (foot2 g (.slice (some ⟨sb,off,none⟩) S0.length cap)) w w3:=.of_below B3;have HI2:=LH (show i<2^b from hL.i_lt);obtain⟨E,hE⟩:=Del.start HI.out HX.out h0 HF.out.1 HM.out.2.2.1;have HE:=LH hE;have K3:=LH k3;have o4:=own_slot o3 i hil (0,0);have O4:=LH o4;have k4: ((w3.setCell ⟨sb,off+i*2,none⟩ (.int .i64 0)).setCell ⟨sb,off+i*2+1,none⟩ (.int .i64 0)).heap[g]? =_:=(Below.heap_setCell _ _ _ _ hnb).trans ((Below.heap_setCell _ _ _ _ hnb).trans k3);have K4:=LH k4;have T4:=LH ((T3.setCell (p:=⟨sb,off+i*2,none⟩) (.inl (.inr rfl)) (.int .i64 0)).setCell (p:=⟨sb,off+i*2+1,none⟩) (.inl (.inr rfl)) (.int .i64 0));clear hL hx k3 o3 hb3 K1 O1 T3 hE o4 k4;have hil2: (i:Int) < (S0.length:Int):=by omega
 go_upto_region 8 with fail;generalize (w3.setCell ⟨sb,off+i*2,none⟩ (.int .i64 0)).setCell ⟨sb,off+i*2+1,none⟩ (.int .i64 0) =W4 at K4 O4 T4⊢;clear cc3 cf3 d1 d0 fb zg3 zb3 K3;go_wp2_with fail;refine(probe_next _ g S0.length b i _ _ cap K4.out rfl HL2.out (by omega) hil).mono ?_;rintro e w5 ⟨rfl,hb5⟩;have K5:=LH (bB K4.out hb5);have O5:=LH (O4.out.below hb5);have T5:=LH (T4.out.more hb5);clear K4 O4 T4 hb5 B3 s3;go_wp2_with fail
 go_loopw [5,8] (fun hole at_ wr=>∃(S:List Nd) (c t:Nat),hole=.int .i64 (step (2^b) i c)∧at_=.int .i64 (step (2^b) i t)∧Del b (S0.set i (0,0)) i E S (delR r id) c t∧
  wr.heap[g]? =some (.cells #[.int .i64 l,.int .i64 b,.int .i64 r.length,.int .i64 (sumR r),.slice (some ⟨sb,off,none⟩) S0.length cap] 256 (0,0))∧Own wr 0 216 encN (.slice (some ⟨sb,off,none⟩) S0.length cap) S∧
  Turn (foot2 g (.slice (some ⟨sb,off,none⟩) S0.length cap)) w wr) (fun _ at_ _=>E - wayOf (2^b) i (intOf at_).toNat)
 case atStart=>exact⟨_,0,1,by rw [step_zero HI2.out],val_int (by rw [HL2.out];unfold step;push_cast;rfl),HE.out,K5.out,O5.out,T5.out⟩
 case round=>
  obtain⟨S,c,t,rfl,rfl,hD,hK,hO,hT⟩:=hrel;have HD:=LH hD;have KW:=LH hK;have OW:=LH hO;have TW:=LH hT;have hSl2:S.length=S0.length:=by rw [hD.len,HL2.out]
  have HSL:=LH hSl2;have hpb:=Nat.two_pow_pos b;obtain⟨p,hp_⟩ : ∃p,p=step (2^b) i t:=⟨_,rfl⟩;obtain⟨q,hq_⟩ : ∃q,q=step (2^b) i c:=⟨_,rfl⟩;have HP:=LH hp_;have HQ:=LH hq_;have hpn:p<2^b:=by rw [hp_];exact step_lt hpb
  have hqn:q<2^b:=by rw [hq_];exact step_lt hpb
  have hpl:p<S.length:=by rw [hD.len];exact hpn
  have hql:q<S.length:=by rw [hD.len];exact hqn
  have hpl0:p<S0.length:=by rw [←hSl2];exact hpl
  have hql0:q<S0.length:=by rw [←hSl2];exact hql
  rw [←hp_,←hq_];have cc:=bC hK;have cf:=bF hK;have zg:=lB hK;have zb:=(hO.lt _ rfl).2;have fb:=hO.frozen;have d0:=hO.slT.cell_at hpl 0 (.int .i64 S[p].1) rfl;have d1:=hO.slT.cell_at hpl 1 (.int .i64 S[p].2) rfl;simp only [Nat.add_zero] at d0;obtain⟨x,hx⟩ : ∃x,x=S[p]:=⟨_,rfl⟩;rw [←hx] at d0 d1;have HX:=LH (show S[p]? =some x by rw [hx];exact List.getElem?_eq_getElem hpl);have HX2:=LH (show S[step (2^b) i t]? =some x by rw [←hp_];exact HX.out);clear hD hK hO hT hp_ hq_ hx hpb hSl2;by_cases hx0:0<x.2
  ·have hmem:Hid (1≤x.1∧x.1≤562949953421312):=LH (HM.out.2.2.2.2 x (HD.out.perm.subset (List.mem_filter.2 ⟨List.mem_of_getElem? HX.out,by simp [full];omega⟩)))
   have HH:=LH (fun W=>probe_Home W b x.1 (by omega) (by omega) hmem.out.1 hmem.out.2);have hhn:homeOf b x.1<2^b:=homeOf_lt (by omega) x.1;have HS1:=LH (fun hw=>HD.out.stay (by omega) HX2.out (by omega) hw);have HS2:=LH (fun hw=>HD.out.move (by omega) HX2.out (by omega) hw);have HE2:=LH (HD.out.ne HX2.out (by omega));rw [←HP.out,←HQ.out] at HS1 HS2;generalize homeOf b x.1=ho at HH hhn HS1 HS2;have hho0:ho<S0.length:=by rw [HL2.out];exact hhn
   go_upto_region 11 with fail;refine rX (by kernel_rfl) (by kernel_rfl) ?_
   repeat (go_big_quiet_step ((go_at_call 297;exact quiet_ext (HH.out _))))
   refine wpQuiet_nil ?_;intro w6 h6;have hb6:=bX h6;have K6:=LH (bB KW.out hb6);have O6:=LH (OW.out.below hb6);have T6:=LH (TW.out.more hb6);clear h6 hb6 cc cf zg zb fb d0 d1;go_wp2_with fail;refine(probe_way _ g S0.length b ho q _ _ cap K6.out rfl HL2.out (by omega) hho0 hql0).mono ?_;rintro e w7 ⟨rfl,hb7⟩;have K7:=LH (bB K6.out hb7);have O7:=LH (O6.out.below hb7);have T7:=LH (T6.out.more hb7);clear K6 O6 T6 hb7;go_wp2_with fail;refine(probe_way _ g S0.length b ho p _ _ cap K7.out rfl HL2.out (by omega) hho0 hpl0).mono ?_;rintro e w8 ⟨rfl,hb8⟩;have K8:=LH (bB K7.out hb8);have O8:=LH (O7.out.below hb8);have T8:=LH (T7.out.more hb8);clear K7 O7 T7 hb8;rw [←HL2.out] at HS1 HS2;generalize wayOf S0.length ho p=wp_ at HS1 HS2⊢;generalize wayOf S0.length ho q=wq at HS1 HS2⊢;by_cases hw:wq≤wp_
   ·have hwi: (wq:Int)≤(wp_:Int):=by omega
    have HS:=LH (HS2.out hw);clear HS1 HS2;have cc:=bC K8.out;have cf:=bF K8.out;have zg:=lB K8.out;have zb:=(O8.out.lt _ rfl).2;have fb:=O8.out.frozen;have d0:=O8.out.slT.cell_at hpl 0 (.int .i64 S[p].1) rfl;have d1:=O8.out.slT.cell_at hpl 1 (.int .i64 S[p].2) rfl;have d2:=O8.out.slT.cell_at hql 0 (.int .i64 S[q].1) rfl;have d3:=O8.out.slT.cell_at hql 1 (.int .i64 S[q].2) rfl;have hxx:S[p] =x:=by have:=HX.out;rw [List.getElem?_eq_getElem hpl] at this;exact Option.some.inj this
    rw [hxx] at d0 d1;simp only [Nat.add_zero] at d0 d2;obtain⟨y,hy⟩ : ∃y,y=S[q]:=⟨_,rfl⟩;rw [←hy] at d2 d3;clear hy
    have hpq: ¬p=q:=fun he=>by
     rw [HP.out,HQ.out] at he;have h1:=HD.out.ct;have h2:=HE2.out;have h3:=HD.out.En;have:=step_inj (by omega) (by omega) he;omega
    have hpq1: ¬q=p:=fun he=>hpq he.symm;have hpq2: ¬p*2=q*2+1:=by omega
    have hpq3: ¬q*2+1=p*2:=by omega
    have hpq4: ¬p*2+1=q*2:=by omega
    have hpq5: ¬q*2=p*2+1:=by omega
    have hpi: (p:Int) < (S0.length:Int):=by omega
    have hqi: (q:Int) < (S0.length:Int):=by omega
    have o9:=own_slot (own_slot O8.out q hql x) p (by simpa using hpl) (0,0);have O9:=LH o9;have k9:=(Below.heap_setCell (((w8.setCell ⟨sb,off+q*2,none⟩ (.int .i64 x.1)).setCell ⟨sb,off+q*2+1,none⟩ (.int .i64 x.2)).setCell ⟨sb,off+p*2,none⟩ (.int .i64 0)) ⟨sb,off+p*2+1,none⟩ (.int .i64 0) g hnb).trans ((Below.heap_setCell ((w8.setCell ⟨sb,off+q*2,none⟩ (.int .i64 x.1)).setCell ⟨sb,off+q*2+1,none⟩ (.int .i64 x.2)) ⟨sb,off+p*2,none⟩ (.int .i64 0) g hnb).trans ((Below.heap_setCell (w8.setCell ⟨sb,off+q*2,none⟩ (.int .i64 x.1)) ⟨sb,off+q*2+1,none⟩ (.int .i64 x.2) g hnb).trans ((Below.heap_setCell w8 ⟨sb,off+q*2,none⟩ (.int .i64 x.1) g hnb).trans K8.out)));have K9:=LH k9;have T9:=LH ((((T8.out.setCell (p:=⟨sb,off+q*2,none⟩) (.inl (.inr rfl)) (.int .i64 x.1)).setCell (p:=⟨sb,off+q*2+1,none⟩) (.inl (.inr rfl)) (.int .i64 x.2)).setCell (p:=⟨sb,off+p*2,none⟩) (.inl (.inr rfl)) (.int .i64 0)).setCell (p:=⟨sb,off+p*2+1,none⟩) (.inl (.inr rfl)) (.int .i64 0));clear o9 k9 hxx;go_upto_region 13 with fail
    go_region
    generalize (((w8.setCell ⟨sb,off+q*2,none⟩ (.int .i64 x.1)).setCell ⟨sb,off+q*2+1,none⟩ (.int .i64 x.2)).setCell ⟨sb,off+p*2,none⟩ (.int .i64 0)).setCell ⟨sb,off+p*2+1,none⟩ (.int .i64 0) =w9 at K9 O9 T9⊢;have K9:Hid (w9.drew.heap[g]? =_):=LH K9.out;have O9:=LH O9.out.drew;have T9:=LH T9.out.drew;generalize w9.drew=w9d at K9 O9 T9⊢;clear cc cf zg zb fb d0 d1 d2 d3 hpq hpq1 hpq2 hpq3 hpq4 hpq5 K8 O8 T8;go_wp2_with fail;refine(probe_next _ g S0.length b p _ _ cap K9.out rfl HL2.out (by omega) hpl0).mono ?_;rintro e wA ⟨rfl,hbA⟩;have KA:=LH (bB K9.out hbA);have OA:=LH (O9.out.below hbA);have TA:=LH (T9.out.more hbA);go_wp2_with fail;go_roundw
    case rel=>exact⟨_,t,t+1,by rw [HP.out],by rw [HP.out,HL2.out];exact val_int (by push_cast;exact_mod_cast step_next (Nat.two_pow_pos b)),HS.out,KA.out,OA.out,TA.out⟩
    case measure=>exact del_less HI2.out HE2.out HD.out.En HP.out HL2.out
   ·have hwi:decide ((wq:Int)≤(wp_:Int)) =false:=by simp;omega
    have HS:=LH (HS1.out (by omega));clear HS1 HS2;go_wp2_with fail;refine(probe_next _ g S0.length b p _ _ cap K8.out rfl HL2.out (by omega) hpl0).mono ?_;rintro e w9 ⟨rfl,hb9⟩;have K9:=LH (bB K8.out hb9);have O9:=LH (O8.out.below hb9);have T9:=LH (T8.out.more hb9);go_wp2_with fail;go_roundw
    case rel=>exact⟨S,c,t+1,by rw [HQ.out],by rw [HP.out,HL2.out];exact val_int (by push_cast;exact_mod_cast step_next (Nat.two_pow_pos b)),HS.out,K9.out,O9.out,T9.out⟩
    case measure=>exact del_less HI2.out HE2.out HD.out.En HP.out HL2.out
  ·have hx0':decide (0<x.2) =false:=by simpa using hx0
   have hz:x.2=0:=by
    by_cases hz:x.2=0
    ·exact hz
    ·have:=(HM.out.2.2.2.1.2 x (HD.out.perm.subset (List.mem_filter.2 ⟨List.mem_of_getElem? HX.out,by simp [full];omega⟩))).2
     omega
   have HPI:=LH (HD.out.done HX2.out hz HM.out.2.2.2.1.ids fun y hy=>(HM.out.2.2.2.1.2 y hy).2);have hpi: (p:Int) < (S0.length:Int):=by omega
   have hrl2: (r.length:Int)≤72057594037927935:=by omega
   clear hz HD HX HX2;go_wp2_with fail;go_ret;refine⟨rfl,?_,?_⟩
   ·exact probe_taken (r':=delR r id) KW.out OW.out HPI.out hq3 hq34 (by have:=HM.out.1;have:=HF.out.2.1;omega) HM.out.1 HM.out.2.1
   ·refine Turn.setCell (Turn.setCell TW.out ?_ _) ?_ _
    ·exact .inl (.inl rfl)
    ·exact .inl (.inl rfl)
theorem probe_Take (w:World) (g l:Nat) (r:List Nd) (F:Nat→Prop) (h:ProbeAt w g l r F) (hf:Fits l r) (hl:l≤48) (id:Int) (hn: ∀x∈r,isNode l x.1=true) :
 Calls Tryz.prog 332 #[.pointer (some ⟨g,0,none⟩),.int .i64 id] w fun e w'=>e=.returned (.int .i64 (getR r id))∧ProbeAt w' g l (delR r id) F∧Turn F w w':=by
 by_cases h0:getR r id=0
 ·refine(probe_Take_none w g l r F h hl id hn h0).mono ?_
  rintro e w' ⟨rfl,hb⟩;rw [h0,del_zero hf.roll h0];exact⟨rfl,h.below hb,.of_below hb⟩
 ·exact probe_Take_some w g l r F h hf hl id hn h0
theorem Fits.del {l:Nat} {r:List Nd} (hf:Fits l r) (id:Int) :Fits l (delR r id):=
 ⟨hf.roll.del id,fun x hx=>hf.lt x (delR_sub hx),by rw [sumR_del hf.roll];have:=getR_nonneg hf.roll id;have:=hf.sum;omega⟩
theorem pool_Take (w:World) (g K l:Nat) (r:List Nd) (F:Nat→Prop) (h:PoolAt w g K l r F) (id:Int) :
 Calls Tryz.prog 322 #[.pointer (some ⟨g,0,none⟩),.int .i64 id] w fun e w'=>e=.returned (.int .i64 (getR r id))∧PoolAt w' g K l (delR r id) F∧Turn F w w':=by
 have hn:=h.fits.nodes h.l_le;obtain⟨h1,h2,h3,p,F0,rfl,h4⟩:=h;have hF:=h3.del id;rcases h4 with ⟨rfl,h16,hh,hd⟩ | ⟨rfl,hh,hd⟩
 ·have hgF: ¬F0 g:=fun hg=>by
   rcases hd.typed g hg with h|h
   ·exact absurd (typeAt_eq h (.of hh)) (by decide)
   ·exact absurd (typeAt_eq h (.of hh)) (by decide)
  have HC:=LH (fun W (h:DenseAt W p l r F0)=>dense_Take W p l r F0 h h3 id hn);have H:=LH hh;have HD:=LH hd;generalize getR r id=n at HC⊢;clear hh hd hn
  go_enter Tryz.func322,Tryz.ntmps322
  go_wp2_with fail;refine(pool_isArray _ g p _ H.out).mono ?_;rintro e w1 ⟨rfl,hb1⟩;have k1:=bB H.out hb1;have c1:=bC k1;have z1:=lB k1;have D1:=LH (HD.out.below hb1);have K1:=LH k1;clear k1;go_wp2_with fail;refine(HC.out _ D1.out).mono ?_;rintro e w2 ⟨rfl,hd2,hT2⟩
  have HP:Hid (PoolAt w2 g 1 l (delR r id) (footP g F0)∧Turn (footP g F0) w w2):=
   ⟨⟨h1,h2,hF,p,F0,rfl,.inl ⟨rfl,h16,hT2.keep K1.out hgF,hd2⟩⟩,(Turn.of_below hb1).trans hT2 (fun b hb=>.inl (.inr hb))⟩
  clear hd2 hT2;go_wp2_with fail;go_ret;exact⟨rfl,HP.out⟩
 ·have hgF: ¬F0 g:=fun hg=>by
   rcases hd.typed g hg with h|h
   ·exact absurd (typeAt_eq h (.of hh)) (by decide)
   ·exact absurd (typeAt_eq h (.of hh)) (by decide)
  have HC:=LH (fun W (h:ProbeAt W p l r F0)=>probe_Take W p l r F0 h h3 h2 id hn);have H:=LH hh;have HD:=LH hd;generalize getR r id=n at HC⊢;clear hh hd hn
  go_enter Tryz.func322,Tryz.ntmps322
  go_wp2_with fail;refine(pool_isArray_no _ g _ H.out).mono ?_;rintro e w0 ⟨rfl,hb0⟩;have K0:=LH (bB H.out hb0);go_wp2_with fail;refine(pool_inner _ g _ _ K0.out).mono ?_;rintro e w1 ⟨rfl,hb1'⟩;have hb1:=hb0.trans (hb1'.mono hb0.size);have D1:=LH (HD.out.below hb1);have K1:=LH (bB H.out hb1);clear hb0 hb1' K0;go_wp2_with fail;refine(HC.out _ D1.out).mono ?_;rintro e w2 ⟨rfl,hd2,hT2⟩
  have HP:Hid (PoolAt w2 g 2 l (delR r id) (footP g F0)∧Turn (footP g F0) w w2):=
   ⟨⟨h1,h2,hF,p,F0,rfl,.inr ⟨rfl,hT2.keep K1.out hgF,hd2⟩⟩,(Turn.of_below hb1).trans hT2 (fun b hb=>.inl (.inr hb))⟩
  clear hd2 hT2;go_wp2_with fail;go_ret;exact⟨rfl,HP.out⟩
theorem kids_yes {l:Nat} {p:Int} (h: (kidsOf l p).2.2=true) :kidsOf l p= (2*p,2*p+1,true):=by
 unfold kidsOf at h⊢
 split
 ·rfl
 ·rename_i hn;rw [if_neg hn] at h;cases h
theorem kids_no {l:Nat} {p:Int} (h: (kidsOf l p).2.2=false) :kidsOf l p= (0,0,false):=by
 unfold kidsOf at h⊢
 split
 ·rename_i hn;rw [if_pos hn] at h;cases h
 ·rfl
theorem fold_Mass (w:World) (g K l:Nat) (r:List Nd) (F:Nat→Prop) (h:PoolAt w g K l r F) (p:Int) :
 Calls Tryz.prog 321 #[.pointer (some ⟨g,0,none⟩),.int .i64 p] w fun e w'=>e=.returned (.tuple #[.int .i64 (if (kidsOf l p).2.2=true then pairR r p else 0),.int .i64 (if (kidsOf l p).2.2=true then pairR r p+getR r p else 0)])∧Below w.heap.size w w':=by
 have HL:=LH (fun W h=>pool_L W g K l r F h);have HP:=LH h
 cases hk: (kidsOf l p).2.2
 ·have HK:=LH (kids_no hk)
  rw [if_neg (by simp),if_neg (by simp)];clear h hk
  go_enter Tryz.func321,Tryz.ntmps321
  go_wp2_with fail;refine(HL.out _ HP.out).mono ?_;rintro e w1 ⟨rfl,hb1⟩;have B1:=LH hb1;go_wp2_with fail;refine(twig_Kids _ l p).mono ?_;rintro e w2 ⟨rfl,hb2⟩;rw [HK.out];unfold endsV;have B2:=LH (Below.then_ B1.out hb2);clear hb1 hb2;go_wp2_with fail
  go_ret2
  exact⟨rfl,B2.out⟩
 ·have HK:=LH (kids_yes hk)
  rw [if_pos rfl,if_pos rfl];have HG:=LH (fun W id h=>pool_Get W g K l r F h id);have hs:=h.fits.sum;have a0:=getR_nonneg h.fits.roll (2*p);have a1:=getR_le_sum h.fits.roll (2*p);have b0:=getR_nonneg h.fits.roll (2*p+1);have b1:=getR_le_sum h.fits.roll (2*p+1);have c0:=getR_nonneg h.fits.roll p;have c1:=getR_le_sum h.fits.roll p;have HG1:=LH (fun W h=>HG.out W (2*p) h);have HG2:=LH (fun W h=>HG.out W (2*p+1) h);have HG3:=LH (fun W h=>HG.out W p h);unfold pairR;generalize getR r (2*p) =n1 at HG1 a0 a1⊢;generalize getR r (2*p+1) =n2 at HG2 b0 b1⊢;generalize getR r p=n3 at HG3 c0 c1⊢;generalize sumR r=n4 at hs a1 b1 c1;clear h hk HG
  go_enter Tryz.func321,Tryz.ntmps321
  go_wp2_with fail;refine(HL.out _ HP.out).mono ?_;rintro e w1 ⟨rfl,hb1⟩;have B1:=LH hb1;go_wp2_with fail;refine(twig_Kids _ l p).mono ?_;rintro e w2 ⟨rfl,hb2⟩;rw [HK.out];unfold endsV;have B2:=LH (Below.then_ B1.out hb2);clear hb1 hb2;go_wp2_with fail;refine(HG1.out _ (HP.out.below B2.out)).mono ?_;rintro e w3 ⟨rfl,hb3⟩;have B3:=LH (Below.then_ B2.out hb3);clear hb3;go_wp2_with fail;refine(HG2.out _ (HP.out.below B3.out)).mono ?_;rintro e w4 ⟨rfl,hb4⟩;have B4:=LH (Below.then_ B3.out hb4);clear hb4;go_wp2_with fail;refine(HG3.out _ (HP.out.below B4.out)).mono ?_;rintro e w5 ⟨rfl,hb5⟩;have B5:=LH (Below.then_ B4.out hb5);clear hb5;go_wp2_with fail
  go_ret2
  exact⟨rfl,B5.out⟩
theorem fold_Ready (w:World) (g K l:Nat) (r:List Nd) (F:Nat→Prop) (h:PoolAt w g K l r F) (p most:Int) :
 Calls Tryz.prog 304 #[.pointer (some ⟨g,0,none⟩),.int .i64 p,.int .i64 most] w fun e w'=>e=.returned (.bool (readyR l r p most))∧Below w.heap.size w w':=by
 have HM:=LH (fold_Mass w g K l r F h p)
 cases hk: (kidsOf l p).2.2
 ·have e1:readyR l r p most=false:=by simp [readyR,hk]
  rw [e1];rw [if_neg (by simp [hk]),if_neg (by simp [hk])] at HM;clear h hk e1
  go_enter Tryz.func304,Tryz.ntmps304
  go_wp2_with fail;refine HM.out.mono ?_;rintro e w1 ⟨rfl,hb1⟩;go_wp2_with fail;go_ret;exact⟨rfl,hb1⟩
 ·have e1:readyR l r p most=decide (0<pairR r p∧pairR r p+getR r p≤most):=by simp [readyR,hk]
  rw [e1];rw [if_pos hk,if_pos hk] at HM;generalize pairR r p+getR r p=m at HM⊢;generalize pairR r p=n at HM⊢;clear h hk e1;by_cases h1:0<n
  ·by_cases h2:m≤most
   ·rw [decide_eq_true ⟨h1,h2⟩]
    go_enter Tryz.func304,Tryz.ntmps304
    go_wp2_with fail;refine HM.out.mono ?_;rintro e w1 ⟨rfl,hb1⟩;go_wp2_with fail;go_ret;exact⟨rfl,hb1⟩
   ·rw [decide_eq_false (fun h=>h2 h.2)]
    have h3:decide (m≤most) =false:=by simpa using h2
    clear h2
    go_enter Tryz.func304,Tryz.ntmps304
    go_wp2_with fail;refine HM.out.mono ?_;rintro e w1 ⟨rfl,hb1⟩;go_wp2_with fail;go_ret;exact⟨rfl,hb1⟩
  ·rw [decide_eq_false (fun h=>h1 h.1)]
   have h3:decide (0<n) =false:=by simpa using h1
   clear h1
   go_enter Tryz.func304,Tryz.ntmps304
   go_wp2_with fail;refine HM.out.mono ?_;rintro e w1 ⟨rfl,hb1⟩;go_wp2_with fail;go_ret;exact⟨rfl,hb1⟩
def PoolTo (w:World) (g K l:Nat) (s:List Nd) (F:Nat→Prop) (w':World) :Prop:=∃F',PoolAt w' g K l s F'∧Turn F w w'∧Grow w F F'
theorem fold_Do (w:World) (g K l:Nat) (r:List Nd) (F:Nat→Prop) (h:PoolAt w g K l r F) (p most:Int) (hy:readyR l r p most=true) (hr30:r.length<1073741824) :
 Calls Tryz.prog 305 #[.pointer (some ⟨g,0,none⟩),.int .i64 p] w fun e w'=>(∃n,e=.returned (.int .i64 n))∧PoolTo w g K l (foldR r p) F w':=by
 obtain⟨hk,hpos,hmost⟩:=ready_iff.1 hy;have hl:=h.l_le;have hid:=isNode_lt (kids_iff.1 hk).1;obtain⟨k,rfl⟩ : ∃k:Nat,p=k:=⟨p.toNat,by omega⟩;have HK:=LH (kids_yes hk);have HL:=LH (fun W h=>pool_L W g K l r F h);have HP:=LH h;have hs:=h.fits.sum;have hroll:=h.fits.roll;have a0:=getR_nonneg hroll (2* (k:Int));have a1:=getR_le_sum hroll (2* (k:Int));have b0:=getR_nonneg hroll (2* (k:Int) +1);have b1:=getR_le_sum hroll (2* (k:Int) +1);have hk1:1≤k:=by omega
 have hk2:k<2*2^l:=by have:=hid.2;exact_mod_cast this
 have e2:getR (delR r (2* (k:Int))) (2* (k:Int) +1) =getR r (2* (k:Int) +1):=by rw [getR_del hroll,if_neg (by omega)]
 have sm:sumR (delR (delR r (2* (k:Int))) (2* (k:Int) +1)) +pairR r k≤72057594037927935:=by
  rw [sumR_del (hroll.del _),e2,sumR_del hroll];unfold pairR;omega
 have ln: (delR (delR r (2* (k:Int))) (2* (k:Int) +1)).length<1073741824:=by
  have l1:=(delR_len (r:=r) (2* (k:Int))).1;have l2:=(delR_len (r:=delR r (2* (k:Int))) (2* (k:Int) +1)).1;omega
 have HT1:=LH (fun W h=>pool_Take W g K l r F h (2* (k:Int)));have HT2:=LH (fun W h=>pool_Take W g K l (delR r (2* (k:Int))) F h (2* (k:Int) +1));rw [e2] at HT2;have HA:=LH (fun W h=>pool_Add W g K l (delR (delR r (2* (k:Int))) (2* (k:Int) +1)) F h k hk1 hk2 (pairR r k) hpos sm ln);unfold foldR;generalize addR (delR (delR r (2* (k:Int))) (2* (k:Int) +1)) k (pairR r k) =s at HA⊢;unfold pairR at HA hpos;generalize delR (delR r (2* (k:Int))) (2* (k:Int) +1) =r2 at HT2 HA sm ln;generalize delR r (2* (k:Int)) =r1 at HT1 HT2 e2;generalize getR r (2* (k:Int)) =n1 at HT1 HA a0 a1 hpos;generalize getR r (2* (k:Int) +1) =n2 at HT2 HA b0 b1 hpos;generalize sumR r=n4 at hs a1 b1;clear h hk hy hmost hroll e2 sm ln hid
 go_enter Tryz.func305,Tryz.ntmps305
 go_wp2_with fail;refine(HL.out _ HP.out).mono ?_;rintro e w1 ⟨rfl,hb1⟩;have B1:=LH hb1;go_wp2_with fail;refine(twig_Kids _ l k).mono ?_;rintro e w2 ⟨rfl,hb2⟩;rw [HK.out];unfold endsV;have B2:=LH (Below.then_ B1.out hb2);clear hb1 hb2;go_wp2_with fail;refine(HT1.out _ (HP.out.below B2.out)).mono ?_;rintro e w3 ⟨rfl,hp3,ht3⟩;have P3:=LH hp3;have T3:=LH ((Turn.of_below B2.out).trans ht3 Grow.refl);clear hp3 ht3;go_wp2_with fail;refine(HT2.out _ P3.out).mono ?_;rintro e w4 ⟨rfl,hp4,ht4⟩;have P4:=LH hp4;have T4:=LH (T3.out.trans ht4 Grow.refl);clear hp4 ht4;go_wp2_with fail;refine(HA.out _ P4.out).mono ?_;rintro e w5 ⟨F5,rfl,hp5,ht5,hg5⟩
 have HE:Hid (PoolTo w g K l s F w5):=LH ⟨F5,hp5,T4.out.trans ht5 Grow.refl,fun b hb=>by
  rcases hg5 b hb with h|h
  ·exact .inl h
  ·exact .inr (Nat.le_trans T4.out.size h)⟩
 clear hp5 ht5 hg5;go_wp2_with fail;go_ret;exact⟨⟨_,rfl⟩,HE.out⟩
section
open Go.ChangeShapes Go.WideShapes Go.ChangeAt Go.RowKit Go.Maps
theorem keyI':Keyed Tryz.prog 3:=int_keyed Tryz.underlying3
theorem zeroU (w:World) : (zeroValue 370).run Tryz.prog w=.ok (.agg #[]) w:=by kernel_rfl
def footA (a:Nat) (v:Value) (b:Nat) :Nat→Prop:=fun x=>x=a∨v.ownBlock=some x∨x=b
def AgS (w:World) (a b:Nat) (M:List Int) (n:Nat) (D:DataW Unit) (F:Nat→Prop) :Prop:=
 ∃v:Value,w.heap[a]? =some (.cells #[v,.map (some b)] 368 (0,0))∧Own w 0 3 encZ v M∧w.ownsMap Tryz.prog 3 (unitElem (H:=Unit)) b n D∧F=footA a v b
structure SetIs (D:DataW Unit) (L:List Int) :Prop where
 has: ∀z,Go.Maps.has D (.int .i64 z) =true↔z∈L
 size:Go.Maps.size D=L.length
def AgAt (w:World) (a b:Nat) (L:List Int) (F:Nat→Prop) :Prop:=∃D,AgS w a b L L.length D F∧SetIs D L
theorem ownsMap_keep {w w':World} {b n:Nat} {D:DataW Unit} {R:Value→Option (DataW Unit×List MemPlace)} (h:w.ownsMap Tryz.prog 3 R b n D) (hb:w'.heap[b]? =w.heap[b]?) :w'.ownsMap Tryz.prog 3 R b n D:=by
 obtain⟨es,clock,h1,h2⟩:=h;exact⟨es,clock,hb.trans h1,h2⟩
theorem AgS.keep {w w':World} {a b n:Nat} {M:List Int} {D:DataW Unit} {F:Nat→Prop} (h:AgS w a b M n D F) (hk: ∀b,F b→w'.heap[b]? =w.heap[b]?) :AgS w' a b M n D F:=by
 obtain⟨v,h1,h2,h3,rfl⟩:=h;exact⟨v,(hk a (.inl rfl)).trans h1,h2.of_block fun x hx=>hk x (.inr (.inl hx)),ownsMap_keep h3 (hk b (.inr (.inr rfl))),rfl⟩
theorem AgS.lt {w:World} {a b n:Nat} {M:List Int} {D:DataW Unit} {F:Nat→Prop} (h:AgS w a b M n D F) : ∀b,F b→b<w.heap.size:=by
 obtain⟨v,h1,h2,h3,rfl⟩:=h;rintro x (rfl|hx|rfl)
 ·exact lB h1
 ·exact(h2.lt x hx).2
 ·exact h3.lt
theorem AgS.below {w w':World} {a b n:Nat} {M:List Int} {D:DataW Unit} {F:Nat→Prop} (h:AgS w a b M n D F) (hb:Below w.heap.size w w') :AgS w' a b M n D F:=h.keep fun b hf=>hb.block b (h.lt b hf)
theorem AgAt.keep {w w':World} {a b:Nat} {L:List Int} {F:Nat→Prop} (h:AgAt w a b L F) (hk: ∀b,F b→w'.heap[b]? =w.heap[b]?) :AgAt w' a b L F:=by
 obtain⟨D,h1,h2⟩:=h;exact⟨D,h1.keep hk,h2⟩
theorem AgAt.lt {w:World} {a b:Nat} {L:List Int} {F:Nat→Prop} (h:AgAt w a b L F) : ∀b,F b→b<w.heap.size:=by
 obtain⟨D,h1,h2⟩:=h;exact h1.lt
theorem AgAt.below {w w':World} {a b:Nat} {L:List Int} {F:Nat→Prop} (h:AgAt w a b L F) (hb:Below w.heap.size w w') :AgAt w' a b L F:=h.keep fun b hf=>hb.block b (h.lt b hf)
theorem AgS.apart {w:World} {a b n:Nat} {M:List Int} {D:DataW Unit} {v:Value} (h1:w.heap[a]? =some (.cells #[v,.map (some b)] 368 (0,0))) (h2:Own w 0 3 encZ v M) (h3:w.ownsMap Tryz.prog 3 (unitElem (H:=Unit)) b n D) :
 v.ownBlock≠some a∧v.ownBlock≠some b∧a≠b:=by
 obtain⟨es,clock,hb,_⟩:=h3;refine⟨h2.ne_block h1 (by decide),fun he=> ?_,fun he=> ?_⟩
 ·rcases h2 with ⟨rfl,_⟩ | ⟨g,off,cap,cur,rfl,_,hg,_⟩
  ·cases he
  ·cases he
   rw [hg] at hb
   cases hb
 ·subst he
  rw [h1] at hb
  cases hb
theorem ag_Len (w:World) (a b n:Nat) (M:List Int) (D:DataW Unit) (F:Nat→Prop) (h:AgS w a b M n D F) :Calls Tryz.prog 302 #[.pointer (some ⟨a,0,none⟩)] w fun e w'=>e=.returned (.int .i64 M.length)∧Below w.heap.size w w':=by
 obtain⟨v,h1,h2,_,rfl⟩:=h;obtain⟨A,cap,rfl,_⟩:=h2.form;have c:=bC h1;have z:=lB h1;clear h1 h2
 go_enter Tryz.func302,Tryz.ntmps302
 go_wp2_with fail;go_ret;exact⟨rfl,bE⟩
theorem fold_ahead (w:World) (x y:Int) (hx:x≤9223372036854775807) (hy:y≤9223372036854775807) (hx1:1≤x) (hy1:1≤y) :Calls Tryz.prog 323 #[.int .i64 x,.int .i64 y] w fun e w'=>e=.returned (.bool (aheadI x y))∧Below w.heap.size w w':=by
 have HX:=LH (fun W=>twig_Depth W x hx);have HY:=LH (fun W=>twig_Depth W y hy);rw [if_pos hx1] at HX;rw [if_pos hy1] at HY;unfold aheadI;generalize x.toNat.log2=n at HX⊢;generalize y.toNat.log2=m at HY⊢;clear hx hy hx1 hy1;by_cases he:n=m
 ·subst he
  rw [if_neg (by simp)];by_cases hlt:x<y
  ·rw [decide_eq_true hlt]
   go_enter Tryz.func323,Tryz.ntmps323
   go_wp2_with fail;refine(HX.out _).mono ?_;rintro e w1 ⟨rfl,hb1⟩;have B1:Below w.heap.size w w1:=Below.then_ bE hb1;have s1:=B1.size;go_wp2_with fail;refine(HY.out _).mono ?_;rintro e w2 ⟨rfl,hb2⟩;have B2:Below w.heap.size w w2:=Below.then_ bE hb2;have s2:=B2.size;go_wp2_with fail;go_ret;exact⟨rfl,bE⟩
  ·have hlt':decide (x<y) =false:=by simpa using hlt
   rw [hlt'];clear hlt
   go_enter Tryz.func323,Tryz.ntmps323
   go_wp2_with fail;refine(HX.out _).mono ?_;rintro e w1 ⟨rfl,hb1⟩;have B1:Below w.heap.size w w1:=Below.then_ bE hb1;have s1:=B1.size;go_wp2_with fail;refine(HY.out _).mono ?_;rintro e w2 ⟨rfl,hb2⟩;have B2:Below w.heap.size w w2:=Below.then_ bE hb2;have s2:=B2.size;go_wp2_with fail;go_ret;exact⟨rfl,bE⟩
 ·rw [if_pos he]
  have he': ((n:Int) == (m:Int)) =false:=by simp;omega
  have he2: (n == m) =false:=by simpa using he
  by_cases hlt:m<n
  ·rw [decide_eq_true hlt]
   have hlt2: (m:Int) < (n:Int):=by omega
   clear he
   go_enter Tryz.func323,Tryz.ntmps323
   go_wp2_with fail;refine(HX.out _).mono ?_;rintro e w1 ⟨rfl,hb1⟩;have B1:Below w.heap.size w w1:=Below.then_ bE hb1;have s1:=B1.size;go_wp2_with fail;refine(HY.out _).mono ?_;rintro e w2 ⟨rfl,hb2⟩;have B2:Below w.heap.size w w2:=Below.then_ bE hb2;have s2:=B2.size;go_wp2_with fail;go_ret;exact⟨rfl,bE⟩
  ·have hlt':decide (m<n) =false:=by simpa using hlt
   have hlt2:decide ((m:Int) < (n:Int)) =false:=by simp;omega
   rw [hlt'];clear hlt he
   go_enter Tryz.func323,Tryz.ntmps323
   go_wp2_with fail;refine(HX.out _).mono ?_;rintro e w1 ⟨rfl,hb1⟩;have B1:Below w.heap.size w w1:=Below.then_ bE hb1;have s1:=B1.size;go_wp2_with fail;refine(HY.out _).mono ?_;rintro e w2 ⟨rfl,hb2⟩;have B2:Below w.heap.size w w2:=Below.then_ bE hb2;have s2:=B2.size;go_wp2_with fail;go_ret;exact⟨rfl,bE⟩
theorem own_setZ {w:World} {base b off n cap:Nat} {l:List Int} (h:Own w base 3 encZ (.slice (some ⟨b,off,none⟩) n cap) l) (k:Nat) (hk:k<l.length) (x:Int) :Own (w.setCell ⟨b,off+k,none⟩ (.int .i64 x)) base 3 encZ (.slice (some ⟨b,off,none⟩) n cap) (l.set k x):=by
 have:=h.setElem k 0 hk (by decide) (.int .i64 x) x rfl
 rwa [Nat.mul_one,Nat.add_zero] at this
theorem ag_swap (w:World) (a b n:Nat) (M:List Int) (D:DataW Unit) (F:Nat→Prop) (h:AgS w a b M n D F) (i j:Nat) (hi:i<M.length) (hj:j<M.length) (hij:i≠j) (hm:M.length≤72057594037927935) :
 Calls Tryz.prog 324 #[.pointer (some ⟨a,0,none⟩),.int .i64 i,.int .i64 j] w fun e w'=>e=.returned (.tuple #[])∧AgS w' a b (swapL M i j) n D F∧Turn F w w':=by
 obtain⟨v,h1,h2,h3,rfl⟩:=h;have hap:=AgS.apart h1 h2 h3;obtain⟨g,off,cap,rfl,hcap⟩:=own_at0 h2 (by omega);have c:=bC h1;have z:=lB h1;have zb:=(h2.lt g rfl).2;have fb:=h2.frozen;have d0:=h2.slT.cell_at hi 0 (.int .i64 M[i]) rfl;have d1:=h2.slT.cell_at hj 0 (.int .i64 M[j]) rfl;simp only [Nat.mul_one,Nat.add_zero] at d0 d1;have i0: (i:Int) < (M.length:Int):=by omega
 have j0: (j:Int) < (M.length:Int):=by omega
 have hij1: ¬i=j:=hij;have hij2: ¬j=i:=fun he=>hij he.symm;have ei:M.getD i 0=M[i]:=by simp [hi]
 have ej:M.getD j 0=M[j]:=by simp [hj]
 have HS:Hid (AgS ((w.setCell ⟨g,off+i,none⟩ (.int .i64 M[j])).setCell ⟨g,off+j,none⟩ (.int .i64 M[i])) a b (swapL M i j) n D (footA a (.slice (some ⟨g,off,none⟩) M.length cap) b)∧Turn (footA a (.slice (some ⟨g,off,none⟩) M.length cap) b) w ((w.setCell ⟨g,off+i,none⟩ (.int .i64 M[j])).setCell ⟨g,off+j,none⟩ (.int .i64 M[i]))):=by
  refine LH ⟨⟨.slice (some ⟨g,off,none⟩) M.length cap,?_,?_,?_,rfl⟩,?_⟩
  ·exact(Below.heap_setCell _ _ _ _ (fun he=>hap.1 (by rw [he];rfl))).trans ((Below.heap_setCell _ _ _ _ (fun he=>hap.1 (by rw [he];rfl))).trans h1)
  ·have o:=own_setZ (own_setZ h2 i hi M[j]) j (by simpa using hj) M[i]
   unfold swapL;rw [ei,ej];exact o
  ·exact(h3.setCell (fun he=>hap.2.1 (by rw [he];rfl)) _).setCell (fun he=>hap.2.1 (by rw [he];rfl)) _
  ·exact((Turn.refl _ w).setCell (.inl (.inr (.inl rfl))) _).setCell (.inl (.inr (.inl rfl))) _
 obtain⟨x,hx⟩ : ∃x,x=M[i]:=⟨_,rfl⟩;obtain⟨y,hy⟩ : ∃y,y=M[j]:=⟨_,rfl⟩;rw [←hx,←hy] at HS;rw [←hx] at d0;rw [←hy] at d1;clear h1 h2 h3 hap ei ej hx hy hij
 go_enter Tryz.func324,Tryz.ntmps324
 go_upto_region 0 with fail
 go_region
 go_wp2_with fail
 go_end0
 first|exact⟨rfl,HS.out⟩ |exact⟨rfl,HS.out.1.keep (fun _ _=>rfl),HS.out.2.drew⟩ |trace_state
end
section
open Go.ChangeShapes Go.WideShapes Go.ChangeAt Go.RowKit Go.Maps
theorem SetIs.put {D:DataW Unit} {L:List Int} {w:World} {b n:Nat} (h:SetIs D L) (hown:w.ownsMap Tryz.prog 3 (unitElem (H:=Unit)) b n D) {id:Int} (hid:id∉L) :SetIs (D.put (.int .i64 id) (.agg [])) (putH L id):=by
 have hp:=putH_perm L id
 have hf:Go.Maps.has D (.int .i64 id) =false:=by
  rw [←Bool.not_eq_true];exact fun hh=>hid ((h.has id).1 hh)
 refine⟨fun z=> ?_,?_⟩
 ·rw [hp.mem_iff,List.mem_cons]
  by_cases hz:z=id
  ·subst hz
   rw [has_put_same hown.isMap (by simp [WideAt.IsKeyLit])];simp
  ·rw [has_put_other (by simp [hz]),h.has];simp [hz]
 ·rw [size_put (hown.tidy keyI'),hf,h.size,hp.length_eq];simp
theorem AgS.read {w:World} {a b n:Nat} {M:List Int} {D:DataW Unit} {F:Nat→Prop} (h:AgS w a b M n D F) (h0:0<M.length) : ∃g off cap,w.heap[a]? =some (.cells #[.slice (some ⟨g,off,none⟩) M.length cap,.map (some b)] 368 (0,0))∧g<w.heap.size∧∀j,j<M.length→w.cell? ⟨g,off+j,none⟩ =some (.int .i64 (M.getD j 0)):=by
 obtain⟨v,h1,h2,h3,rfl⟩:=h;obtain⟨g,off,cap,rfl,hcap⟩:=own_at0 h2 h0;refine⟨g,off,cap,h1,(h2.lt g rfl).2,fun j hj=> ?_⟩;have d:=h2.slT.cell_at hj 0 (.int .i64 M[j]) rfl;simp only [Nat.mul_one,Nat.add_zero] at d;rw [d];simp [hj]
theorem ag_Put_no (w:World) (a:Nat) (id:Int) (hid:id<1) :Calls Tryz.prog 306 #[.pointer (some ⟨a,0,none⟩),.int .i64 id] w fun e w'=>e=.returned (.bool false)∧Below w.heap.size w w':=by
 go_enter Tryz.func306,Tryz.ntmps306
 go_wp2_with fail;go_ret;exact⟨rfl,bE⟩
theorem ag_Put_in (w:World) (a b:Nat) (L:List Int) (F:Nat→Prop) (h:AgAt w a b L F) (id:Int) (hid:id∈L) (h1:1≤id) (h2:id≤9223372036854775807) :Calls Tryz.prog 306 #[.pointer (some ⟨a,0,none⟩),.int .i64 id] w fun e w'=>e=.returned (.bool false)∧Below w.heap.size w w':=by
 obtain⟨D,⟨v,hh,ho,hm,rfl⟩,hs⟩:=h;have hhas:=(hs.has id).2 hid;have c:=bC hh;have z:=lB hh;have hid1:decide (id<1) =false:=by simp;omega
 have hkey:keyOf Tryz.prog 3 (.int .i64 id) =some (.int .i64 id):=keyOf_int_mk Tryz.underlying3 (WalkArith.wf_i64 (by omega));have HM:=LH hm;clear hs hid hh ho hm
 go_enter Tryz.func306,Tryz.ntmps306
 go_wp2_with ((at_lookup;refine wpList_lookup_own_unit _ rfl _ _ 366 rfl 3 370 keyI' Tryz.underlying366 (zeroU _) b L.length D rfl HM.out _ _ rfl hkey ?_));go_ret;exact⟨rfl,bE⟩
theorem ag_Put_new (w:World) (a b:Nat) (L:List Int) (F:Nat→Prop) (h:AgAt w a b L F) (id:Int) (hid:id∉L) (h1:1≤id) (h2:id≤9223372036854775807) (hL: ∀x∈L,1≤x∧x≤9223372036854775807) (hlen:L.length≤1000000000000) :
 Calls Tryz.prog 306 #[.pointer (some ⟨a,0,none⟩),.int .i64 id] w fun e w'=>∃F',e=.returned (.bool true)∧AgAt w' a b (putH L id) F'∧Turn F w w'∧Grow w F F':=by
 obtain⟨D,⟨v,hh,ho,hm,rfl⟩,hs⟩:=h
 have hhas:Go.Maps.has D (.int .i64 id) =false:=by
  rw [←Bool.not_eq_true];exact fun hh=>hid ((hs.has id).1 hh)
 have hap:=AgS.apart hh ho hm;have HSet:=LH (hs.put hm hid);have c:=bC hh;have z:=lB hh;have hid1:decide (id<1) =false:=by simp;omega
 have hkey:keyOf Tryz.prog 3 (.int .i64 id) =some (.int .i64 id):=keyOf_int_mk Tryz.underlying3 (WalkArith.wf_i64 (by omega));have HM:=LH hm;have HH:=LH hh;have HO:=LH ho;have HA:=LH hap;have HL:=LH hL;clear hs hid hh ho hm hap hL
 go_enter Tryz.func306,Tryz.ntmps306
 go_upto_region 6 with ((at_lookup;refine wpList_lookup_own_unit _ rfl _ _ 366 rfl 3 370 keyI' Tryz.underlying366 (zeroU _) b L.length D rfl HM.out _ _ rfl hkey ?_));have b1:Below w.heap.size w (w.alloc (.cells #[] 370)):=bE;have H1:=LH (bB HH.out b1);have M1:=LH (ownsMap_keep HM.out (b1.block _ HM.out.lt));have O1:=LH (HO.out.below b1);have T1:Hid (Turn (footA a v b) w (w.alloc (.cells #[] 370))):=LH (.of_below b1);generalize w.alloc (.cells #[] 370) =w1 at H1 M1 O1 T1⊢;have c1:=bC H1.out;have z1:=lB H1.out;clear c z HM HO HH b1;go_wp2_with ((at_mapUpdate;refine wpList_mapUpdate_own _ rfl _ _ _ 366 rfl 3 370 keyI' Tryz.underlying366 (unitElem (H:=Unit)) b L.length D rfl M1.out (by unfold maxLen;omega) _ _ _ rfl rfl hkey (.agg []) [] unitElem_mk ?_));intro w2 hown2 hg2;have hbz:=M1.out.lt;have H2:Hid (w2.heap[a]? =some (.cells #[v,.map (some b)] 368 (0,0))):=LH ((hg2.block a z1 (by simp only [ne_eq,Option.some.injEq];exact HA.out.2.2)).trans H1.out);have O2:=LH (O1.out.kept hg2 (.inr HA.out.2.1));have M2:=LH hown2;have T2:Hid (Turn (footA a v b) w w2):=LH (T1.out.grown hg2 fun x hx=>by cases hx;exact .inl (.inr (.inr rfl)));have c2:=bC H2.out;have f2:=bF H2.out;have z2:=lB H2.out;obtain⟨A,cap,rfl,_⟩:=O2.out.form;have HA2:=LH (And.intro HA.out.1 HA.out.2.1);clear c1 z1 H1 M1 O1 T1 hown2 hg2;go_wp2_with ((at_builtin;refine wpList_push tyZ rfl _ _ rfl encZ w2 0 _ _ rfl O2.out id rfl rfl ?p1 ?p2 ?p3 ?p4))
 case p1=>omega
 case p2=>simp only [maxLen];omega
 case p3=>exact Nat.zero_le _
 case p4=>
  intro v3 w3 hown3 hg3 hsz3 hor3 _ _;obtain⟨g,off,cap3,rfl,hcap3⟩:=own_at0 hown3 (by simp);have e3: (L ++ [id]).length=L.length+1:=by simp
  rw [e3] at hown3⊢;simp only [e3] at hor3;have H3:=(hg3.block a z2 HA2.out.1.symm).trans H2.out;have M3:=ownsMap_keep M2.out (hg3.block b M2.out.lt HA2.out.2.symm);have c3:=bC H3;have f3:=bF H3;have z3:=lB H3;have hne3:=hown3.ne_block H3 (by decide);have k4:=zH (i:=0) H3 (.slice (some ⟨g,off,none⟩) (L.length+1) cap3);have o4:=hown3.setCell (p:=⟨a,0,none⟩) hne3 (.slice (some ⟨g,off,none⟩) (L.length+1) cap3);have m4:=M3.setCell (a:=⟨a,0,none⟩) (fun he=>HA.out.2.2 he.symm) (.slice (some ⟨g,off,none⟩) (L.length+1) cap3)
  have G4:Hid (Grow w (footA a (.slice A L.length cap) b) (footA a (.slice (some ⟨g,off,none⟩) (L.length+1) cap3) b)):=LH fun x hx=>by
   rcases hx with rfl|hx|rfl
   ·exact .inl (.inl rfl)
   ·rcases hor3 with h|h
    ·exact .inl (.inr (.inl (by rw [←h];exact hx)))
    ·rw [h] at hx
     cases hx
     exact .inr (by have:=T2.out.size;omega)
   ·exact .inl (.inr (.inr rfl))
  have T4:=LH (((T2.out.grown hg3 fun x hx=>.inl (.inr (.inl hx))).setCell (p:=⟨a,0,none⟩) (.inl (.inl rfl)) (.slice (some ⟨g,off,none⟩) (L.length+1) cap3)));have S4:Hid (AgS (w3.setCell ⟨a,0,none⟩ (.slice (some ⟨g,off,none⟩) (L.length+1) cap3)) a b (L ++ [id]) (L.length+1) (D.put (.int .i64 id) (.agg [])) (footA a (.slice (some ⟨g,off,none⟩) (L.length+1) cap3) b)):=LH ⟨_,k4,o4,m4,rfl⟩;clear H3 M3 hne3 k4 o4 m4 hg3 hor3 c2 f2 H2 O2 M2 T2 hown3 HA2;go_upto_region 8 with fail;generalize (w3.setCell ⟨a,0,none⟩ (.slice (some ⟨g,off,none⟩) (L.length+1) cap3)) =w4 at S4 T4⊢;generalize hF:footA a (.slice (some ⟨g,off,none⟩) (L.length+1) cap3) b=F' at S4 G4;generalize D.put (.int .i64 id) (.agg []) =D' at S4 HSet;clear c3 f3 z3 z2 hF hcap3 e3 hsz3
  have hM0: ∀x∈L ++ [id],1≤x∧x≤9223372036854775807:=fun x hx=>by
   rcases List.mem_append.1 hx with hx|hx
   ·exact HL.out x hx
   ·obtain rfl:=List.mem_singleton.1 hx;exact⟨h1,h2⟩
  have HM0:=LH hM0;have hl4: (L ++ [id]).length=L.length+1:=by simp
  obtain⟨g4,off4,cap4,hh4,hg4,_⟩:=S4.out.read (by simp);rw [hl4] at hh4;have c4:=bC hh4;have z4:=lB hh4;clear hM0 hh4 hg4 HL;go_wp2_with fail
  go_loopw [7] (fun i wr=>∃(q k:Nat) (M:List Int),i=.int .i64 q∧AgS wr a b M (L.length+1) D' F'∧q<M.length∧q≤k∧upH k M q=putH L id∧(∀x∈M,1≤x∧x≤9223372036854775807)∧M.length=L.length+1∧Turn (footA a (.slice A L.length cap) b) w wr) (fun i _=>(intOf i).toNat)
  case atStart=>exact⟨L.length,L.length,L ++ [id],by first|rfl|go_num,S4.out,by simp,Nat.le_refl _,rfl,HM0.out,by simp,T4.out⟩
  case round=>
   obtain⟨q,k,M,rfl,hS,hq,hk,hup,hM,hlen2,hT⟩:=hrel;have HS:=LH hS;have HU:=LH hup;have HX:=LH hM;have HT:=LH hT;have HLn:=LH hlen2;have hq2:q≤L.length:=by omega
   clear c4 z4 S4 T4 HM0 hl4;obtain⟨g5,off5,cap5,hh5,hg5,hrd⟩:=hS.read (by omega);rw [hlen2] at hh5;clear hS hup hM hT hlen2;by_cases hq0:q=0
   ·subst hq0
    have e0:upH k M 0=M:=by cases k with
     |zero=>rfl
     |succ k=>simp [upH]
    rw [e0] at HU;have hd:decide ((0:Int) < ((0:Nat) :Int)) =false:=by simp
    clear hrd hh5;go_upto_region 9 with fail;refine rX (by kernel_rfl) (by kernel_rfl) ?_
    repeat (go_big_quiet_step (fail))
    refine wpQuiet_nil ?_;intro w6 h6;have hb6:=bX h6;have HS6:=LH (HS.out.below hb6);have HT6:=LH (HT.out.more hb6);clear h6 hb6;go_wp2_with fail;go_ret;refine⟨F',rfl,⟨D',?_,HSet.out⟩,HT6.out,G4.out⟩;rw [←HU.out,HLn.out];exact HS6.out
   ·obtain⟨p,hp⟩ : ∃p,p= (q - 1) / 2:=⟨_,rfl⟩
    have hpq:p<q:=by omega
    have d0:=hrd q (by omega);have d1:=hrd p (by omega);have c5:=bC hh5;have z5:=lB hh5;have x0:=HX.out (M.getD q 0) (by simp [List.getD_eq_getElem?_getD,hq]);have x1:=HX.out (M.getD p 0) (by simp [List.getD_eq_getElem?_getD,(by omega:p<M.length)]);have HAh:=LH (fun W=>fold_ahead W (M.getD q 0) (M.getD p 0) x0.2 x1.2 x0.1 x1.1);have hpos: (0:Int) < (q:Int):=by omega
    have hpos1:0<q:=by omega
    have hposd:decide ((0:Int) < (q:Int)) =true:=by simpa using hpos1
    have e1: ((q:Int) - 1).tdiv 2= (p:Int):=by rw [Int.tdiv_eq_ediv_of_nonneg (by omega)];omega
    have e2: ((q:Int) - 1) / 2= (p:Int):=by omega
    obtain⟨k',rfl⟩ : ∃k',k=k'+1:=⟨k - 1,by omega⟩;have HSw:=LH (fun W hS=>ag_swap W a b (L.length+1) M D' F' hS q p hq (by omega) (by omega) (by have:=HLn.out;omega));generalize hxq:M.getD q 0=x at d0 HAh;generalize hxp:M.getD p 0=y at d1 HAh
    have HU2:Hid ((if aheadI x y=true then upH k' (swapL M q p) p else M) =putH L id):=LH (by
     have:=HU.out;simp only [upH] at this;rw [←hp,hxq,hxp] at this
     simpa [show 0<q by omega] using this)
    have hp2:p≤L.length:=by omega
    have hpk:p≤k':=by omega
    clear hrd hh5 x0 x1 HU hxq hxp hp;go_upto_region 9 with fail;refine rX (by kernel_rfl) (by kernel_rfl) ?_
    repeat (go_big_quiet_step ((go_at_call 323;exact quiet_ext (HAh.out _))))
    refine wpQuiet_nil ?_;intro w6 h6;have hb6:=bX h6;have HS6:=LH (HS.out.below hb6);have HT6:=LH (HT.out.more hb6);clear h6 hb6 d0 d1 c5 z5
    cases hah:aheadI x y
    ·rw [hah,if_neg (by simp)] at HU2
     go_wp2_with fail;go_ret;refine⟨F',rfl,⟨D',?_,HSet.out⟩,HT6.out,G4.out⟩;rw [←HU2.out,HLn.out];exact HS6.out
    ·rw [hah,if_pos rfl] at HU2
     go_wp2_with fail;refine(HSw.out _ HS6.out).mono ?_;rintro e w7 ⟨rfl,hs7,ht7⟩;have HS7:=LH hs7;have HT7:=LH (HT6.out.trans ht7 G4.out);clear hs7 ht7;go_wp2_with fail;go_roundw
     case rel=>exact⟨p,k',swapL M q p,by first|rfl| (rw [e2]) | (rw [e1]),HS7.out,by rw [swapL_len];omega,hpk,HU2.out,fun z hz=>HX.out z ((swapL_perm hq (by omega)).mem_iff.1 hz),by rw [swapL_len];exact HLn.out,HT7.out⟩
     case measure=>simp [intOf];omega
end
section
open Go.ChangeShapes Go.WideShapes Go.ChangeAt Go.RowKit Go.Maps
theorem getD_mem {M:List Int} {q:Nat} (hq:q<M.length) :M.getD q 0∈M:=by simp [List.getD_eq_getElem?_getD,hq]
def FstJ (R:List Int) (q j ff:Nat) :Prop:=(j=0→ff=q)∧(j=1→ff=stepH R q (2*q+1))∧(j=2→ff=firstH R q)
theorem FstJ.next {R:List Int} {q j ff:Nat} (h:FstJ R q j ff) (hj:j≤1) :FstJ R q (j+1) (stepH R ff (2*q+1+j)):=by
 refine⟨by omega,fun h1=> ?_,fun h1=> ?_⟩
 ·obtain rfl:j=0:=by omega
  rw [h.1 rfl]
 ·obtain rfl:j=1:=by omega
  rw [h.2.1 rfl]
  rfl
theorem FstJ.exit {R:List Int} {q j ff:Nat} (h:FstJ R q j ff) (hj:j≤2) (hx:j=2∨R.length≤2*q+1+j) :ff=firstH R q:=by
 rcases (by omega:j=0∨j=1∨j=2) with rfl|rfl|rfl
 ·rw [h.1 rfl]
  unfold firstH;have e1:stepH R q (2*q+1) =q:=by unfold stepH;rw [if_neg (by omega)]
  rw [e1];unfold stepH;rw [if_neg (by omega)]
 ·rw [h.2.1 rfl]
  unfold firstH;generalize stepH R q (2*q+1) =z;unfold stepH;rw [if_neg (by omega)]
 ·exact h.2.2 rfl
theorem ag_sink (w:World) (a b n:Nat) (M:List Int) (D:DataW Unit) (F:Nat→Prop) (h:AgS w a b M n D F) (h0:0<M.length) (hM: ∀x∈M,1≤x∧x≤9223372036854775807) (hlen:M.length≤1000000000001) :
 Calls Tryz.prog 320 #[.pointer (some ⟨a,0,none⟩)] w fun e w'=>e=.returned (.tuple #[])∧AgS w' a b (downH M.length M 0) n D F∧Turn F w w':=by
 have HS0:=LH h;have HM0:=LH hM;obtain⟨m,hm⟩ : ∃m,m=M.length:=⟨_,rfl⟩;obtain⟨T,hT⟩ : ∃T,T=downH M.length M 0:=⟨_,rfl⟩;rw [←hT];have HT0:Hid (downH m M 0=T):=LH (by rw [hm,hT]);have HML:Hid (M.length=m):=LH hm.symm;rw [←hm] at h0 hlen;clear h hM hT hm
 go_enter Tryz.func320,Tryz.ntmps320
 go_wp2_with fail
 go_loopw [2,3,4] (fun i _ _ wr=>∃(q k:Nat) (R:List Int),i=.int .i64 q∧AgS wr a b R n D F∧q<R.length∧R.length≤k+q∧downH k R q=T∧(∀x∈R,1≤x∧x≤9223372036854775807)∧R.length=m∧Turn F w wr) (fun i _ _ _=>m - (intOf i).toNat)
 case atStart=>exact⟨0,m,M,rfl,HS0.out,by rw [HML.out];exact h0,by rw [HML.out];omega,HT0.out,HM0.out,HML.out,Turn.refl _ _⟩
 case round=>
  obtain⟨q,k,R,rfl,hS,hq,hk,hdn,hR,hRl,hTn⟩:=hrel;have HS:=LH hS;have HD:=LH hdn;have HX:=LH hR;have HT:=LH hTn;have HL:=LH hRl;have hq2:q<m:=by omega
  obtain⟨k',rfl⟩ : ∃k',k=k'+1:=⟨k - 1,by omega⟩;have hk2:m≤k'+1+q:=by omega
  clear hS hdn hR hTn hRl hq hk HS0 HM0 HT0 HML;go_wp2_with fail
  go_loopw [3,4] (fun f c wr=>∃(j cc:Nat) (ff:Nat),cc=2*q+1+j∧c=.int .i64 cc∧f=.int .i64 ff∧j≤2∧ff<m∧FstJ R q j ff∧AgS wr a b R n D F∧Turn F w wr) (fun _ c _=>2*q+4 - (intOf c).toNat)
  case atStart=>exact⟨0,2*q+1,q,rfl,by first|rfl|go_num|trace_state,rfl,by omega,hq2,⟨fun _=>rfl,by omega,by omega⟩,HS.out,HT.out⟩
  case round=>
   obtain⟨j,c,ff,hc,rfl,rfl,hj,hff,hJ,hS2,hT2⟩:=hrel;have HC:=LH hc;have HJ:=LH hJ;have HS2:=LH hS2;have HT2:=LH hT2;obtain⟨g5,off5,cap5,hh5,hg5,hrd⟩:=hS2.read (by rw [HL.out];omega);rw [HL.out] at hh5 hrd;have c5:=bC hh5;have z5:=lB hh5;clear hS2 hT2 hJ hh5 HS HT;by_cases hgo:j≤1∧c<m
   ·have hcl: (c:Int)≤2* (q:Int) +2:=by omega
    have hcm: (c:Int) < (m:Int):=by omega
    have d0:=hrd c hgo.2;have d1:=hrd ff hff;have x0:=HX.out _ (getD_mem (M:=R) (q:=c) (by rw [HL.out];exact hgo.2));have x1:=HX.out _ (getD_mem (M:=R) (q:=ff) (by rw [HL.out];exact hff));have HAh:=LH (fun W=>fold_ahead W (R.getD c 0) (R.getD ff 0) x0.2 x1.2 x0.1 x1.1)
    have HSt:Hid (stepH R ff c=if aheadI (R.getD c 0) (R.getD ff 0) =true then c else ff):=LH (by
     unfold stepH;simp only [HL.out,hgo.2,true_and])
    generalize R.getD c 0=x at d0 HAh HSt;generalize R.getD ff 0=y at d1 HAh HSt;have hj1:=hgo.1;have hcm2:=hgo.2;have hfm: (ff:Int) < (m:Int):=by omega
    have HN:=LH (HC.out ▸ HJ.out.next hj1);clear hrd x0 x1 hgo hc;go_upto_region 5 with fail;refine rX (by kernel_rfl) (by kernel_rfl) ?_
    repeat (go_big_quiet_step ((go_at_call 323;exact quiet_ext (HAh.out _))))
    refine wpQuiet_nil ?_;intro w6 h6;have hb6:=bX h6;have HS6:=LH (HS2.out.below hb6);have HT6:=LH (HT2.out.more hb6);clear h6 hb6 d0 d1 c5 z5
    cases hah:aheadI x y
    ·rw [hah,if_neg (by simp)] at HSt
     go_wp2_with fail;go_roundw
     case rel=>exact⟨j+1,c+1,ff,by have:=HC.out;omega,by first|rfl|go_num|trace_state,rfl,by omega,hff,by have:=HN.out;rw [HSt.out] at this;exact this,HS6.out,HT6.out⟩
     case measure=>have:=HC.out;simp [intOf];omega
    ·rw [hah,if_pos rfl] at HSt
     go_wp2_with fail;go_roundw
     case rel=>exact⟨j+1,c+1,c,by have:=HC.out;omega,by first|rfl|go_num|trace_state,rfl,by omega,hcm2,by have:=HN.out;rw [HSt.out] at this;exact this,HS6.out,HT6.out⟩
     case measure=>have:=HC.out;simp [intOf];omega
   ·have hex:decide ((c:Int)≤2* (q:Int) +2) =false∨((c:Int)≤2* (q:Int) +2∧decide (c<m) =false):=by
     by_cases hj2:j=2
     ·exact .inl (by simp;omega)
     ·exact .inr ⟨by omega,by simp;omega⟩
    have HFf:=LH (HJ.out.exit hj (by rw [HL.out];omega))
    have HDn:Hid ((if ff=q then R else downH k' (swapL R q ff) ff) =T):=LH (by
     have:=HD.out;simp only [downH] at this;rw [←HFf.out] at this;exact this)
    have hle:q≤ff:=by rw [HFf.out];exact firstH_le R q
    have HSw:=LH (fun W hS hne=>ag_swap W a b n R D F hS q ff (by rw [HL.out];exact hq2) (by rw [HL.out];exact hff) hne (by rw [HL.out];omega));clear hrd hgo hc;rcases hex with k1| ⟨k1,k2⟩
    all_goals
     by_cases hfq:ff=q
     ·rw [if_pos hfq] at HDn
      subst hfq;have hfe: ((ff:Int) == (ff:Int)) =true:=by simp
      go_wp2_with fail;exact bR (v:=.tuple #[]) (by simp only [results,Tryz.results320];go_simp) rfl ⟨rfl,HDn.out ▸ HS2.out,HT2.out⟩
     ·rw [if_neg hfq] at HDn
      have hfe: ((ff:Int) == (q:Int)) =false:=by simp;omega
      go_wp2_with fail;refine(HSw.out _ HS2.out (fun e=>hfq e.symm)).mono ?_;rintro e w7 ⟨rfl,hs7,ht7⟩;have HS7:=LH hs7;have HT7:=LH (HT2.out.trans ht7 Grow.refl);clear hs7 ht7;go_wp2_with fail;go_roundw
      case rel=>exact⟨ff,k',swapL R q ff,rfl,HS7.out,by rw [swapL_len,HL.out];exact hff,by rw [swapL_len,HL.out];omega,HDn.out,fun z hz=>HX.out z ((swapL_perm (by rw [HL.out];exact hq2) (by rw [HL.out];exact hff)).mem_iff.1 hz),by rw [swapL_len];exact HL.out,HT7.out⟩
      case measure=>simp [intOf];omega
theorem ag_sink_nil (w:World) (a b n:Nat) (D:DataW Unit) (F:Nat→Prop) (h:AgS w a b [] n D F) :
 Calls Tryz.prog 320 #[.pointer (some ⟨a,0,none⟩)] w fun e w'=>e=.returned (.tuple #[])∧AgS w' a b [] n D F∧Turn F w w':=by
 have HS0:=LH h;obtain⟨v,hh,ho,_,_⟩:=h;obtain⟨A,cap,rfl,_⟩:=ho.form;have c:=bC hh;have z:=lB hh;simp only [List.length_nil] at c;clear hh ho
 go_enter Tryz.func320,Tryz.ntmps320
 go_wp2_with fail
 go_loopw [2] (fun i wr=>i=.int .i64 0∧wr=w) (fun _ _=>0)
 case atStart=>exact⟨rfl,rfl⟩
 case round=>
  obtain⟨rfl,rfl⟩:=hrel;go_wp2_with fail
  go_loopw [3,4] (fun f c W=>f=.int .i64 0∧c=.int .i64 1∧W=wr) (fun _ _ _=>0)
  case atStart=>exact⟨rfl,rfl,rfl⟩
  case round=>
   obtain⟨rfl,rfl,rfl⟩:=hrel;go_wp2_with fail;exact bR (v:=.tuple #[]) (by simp only [results,Tryz.results320];go_simp) rfl ⟨rfl,HS0.out,Turn.refl _ _⟩
theorem ownsMap_shrink {w:World} {b n:Nat} {D:DataW Unit} {R:Value→Option (DataW Unit×List MemPlace)} (h:w.ownsMap Tryz.prog 3 R b n D) :w.ownsMap Tryz.prog 3 R b (Go.Maps.size D) D:=by
 obtain⟨es,clock,h1,h2,h3,rfl⟩:=h;refine⟨es,clock,h1,h2,?_,rfl⟩;simp [Go.Maps.size,length_sorted]
theorem SetIs.pop {D:DataW Unit} {x:Int} {L:List Int} {w:World} {b n:Nat} (h:SetIs D (x :: L)) (hown:w.ownsMap Tryz.prog 3 (unitElem (H:=Unit)) b n D) (hx:x∉L) :SetIs (D.del (.int .i64 x)) (popH (x :: L)):=by
 have hp:=popH_perm x L;refine⟨fun z=> ?_,?_⟩
 ·rw [hp.mem_iff]
  by_cases hz:z=x
  ·subst hz
   rw [has_del_same];simp [hx]
  ·rw [has_del_other (by simp [hz]),h.has];simp [hz]
 ·have hd:=size_del (k:=.int .i64 x) (hown.tidy keyI')
  rw [(h.has x).2 (by simp),h.size] at hd;rw [hp.length_eq];simp at hd
  omega
theorem ag_sink_any (w:World) (a b n:Nat) (M:List Int) (D:DataW Unit) (F:Nat→Prop) (h:AgS w a b M n D F) (hM: ∀x∈M,1≤x∧x≤9223372036854775807) (hlen:M.length≤1000000000001) :
 Calls Tryz.prog 320 #[.pointer (some ⟨a,0,none⟩)] w fun e w'=>e=.returned (.tuple #[])∧AgS w' a b (downH M.length M 0) n D F∧Turn F w w':=by
 by_cases h0:0<M.length
 ·exact ag_sink w a b n M D F h h0 hM hlen
 ·have:M= []:=List.length_eq_zero_iff.1 (by omega)
  subst this;exact ag_sink_nil w a b n D F h
theorem ag_Pop (w:World) (a b:Nat) (x:Int) (L:List Int) (F:Nat→Prop) (h:AgAt w a b (x :: L) F) (hx:x∉L) (hM: ∀y∈x :: L,1≤y∧y≤9223372036854775807) (hlen:L.length≤1000000000000) :
 Calls Tryz.prog 303 #[.pointer (some ⟨a,0,none⟩)] w fun e w'=>e=.returned (.tuple #[.int .i64 x,.bool true])∧AgAt w' a b (popH (x :: L)) F∧Turn F w w':=by
 obtain⟨D,hS,hs⟩:=h;have HLn:=LH (ag_Len w a b _ (x :: L) D F hS);obtain⟨v,hh,ho,hm,rfl⟩:=hS;have hap:=AgS.apart hh ho hm;have HA:=LH hap;have HSet:=LH (hs.pop hm hx);have HK:Hid (keyOf Tryz.prog 3 (.int .i64 x) =some (.int .i64 x)):=LH (keyOf_int_mk Tryz.underlying3 (WalkArith.wf_i64 (by have:=hM x (by simp);omega)));obtain⟨g,off,cap,rfl,hcap⟩:=own_at0 ho (by simp);obtain⟨n,hn⟩ : ∃n,n=L.length:=⟨_,rfl⟩;have hN1: (x :: L).length=n+1:=by rw [hn];simp
 obtain⟨y,hy⟩ : ∃y,y= (x :: L).getD n 0:=⟨_,rfl⟩;have hpop:popH (x :: L) =downH n (((x :: L).set 0 y).take n) 0:=by rw [hy,hn];rfl
 have HPop:=LH hpop;have hyM:y∈x :: L:=by rw [hy];exact getD_mem (by rw [hN1];omega)
 have hM2: ∀z∈((x :: L).set 0 y).take n,1≤z∧z≤9223372036854775807:=fun z hz=>by
  have:=List.mem_of_mem_take hz;rcases List.mem_or_eq_of_mem_set this with h|h
  ·exact hM z h
  ·rw [h];exact hM y hyM
 have HM2:=LH hM2;have HML:Hid ((((x :: L).set 0 y).take n).length=n):=LH (by rw [List.length_take,List.length_set,hN1];omega);rw [hN1] at HLn hh ho hm hcap HA hap⊢;have ga:g≠a:=fun he=>hap.1 (by rw [he];rfl);have HH:=LH hh;have HO:=LH ho;have HMp:=LH hm;have hlen2:n≤1000000000000:=by omega
 have HN:=LH hN1;have HY:=LH hy;clear hs hh ho hm hap hx hM hn hN1 hy hpop hyM hM2 hlen
 go_enter Tryz.func303,Tryz.ntmps303
 go_wp2_with fail;refine HLn.out.mono ?_;rintro e w1 ⟨rfl,hb1⟩;have H1:=LH (bB HH.out hb1);have O1:=LH (HO.out.below hb1);have M1:=LH (ownsMap_keep HMp.out (hb1.block b HMp.out.lt));have T1:Hid (Turn (footA a (.slice (some ⟨g,off,none⟩) (n+1) cap) b) w w1):=LH (.of_below hb1);have c1:=bC H1.out;have z1:=lB H1.out;have zg1:=(O1.out.lt g rfl).2;have d0:=O1.out.slT.cell_at (k:=0) (by rw [HN.out];omega) 0 (.int .i64 x) rfl;simp only [Nat.zero_mul,Nat.add_zero] at d0;clear hb1;go_upto_region 3 with fail;refine rX (by kernel_rfl) (by kernel_rfl) ?_
 repeat (go_big_quiet_step (fail))
 refine wpQuiet_nil ?_;intro w2 h2;have hb2:=bX h2;have H2:=LH (bB H1.out hb2);have O2:=LH (O1.out.below hb2);have M2:=LH (ownsMap_keep M1.out (hb2.block b M1.out.lt));have T2:=LH (T1.out.more hb2);clear h2 hb2 c1 z1 zg1 d0 H1 O1 M1 T1 HLn HH HO HMp;have c2:=bC H2.out;have z2:=lB H2.out;have zg2:=(O2.out.lt g rfl).2;have fg:=O2.out.frozen;have d0:=O2.out.slT.cell_at (k:=0) (by rw [HN.out];omega) 0 (.int .i64 x) rfl
 have d1:=O2.out.slT.cell_at (k:=n) (by rw [HN.out];omega) 0 (.int .i64 y) (by
  have: (x :: L)[n]'(by rw [HN.out];omega) =y:=by rw [HY.out,List.getD_eq_getElem?_getD,List.getElem?_eq_getElem (by rw [HN.out];omega)];rfl
  rw [this];rfl)
 simp only [Nat.zero_mul,Nat.mul_one,Nat.add_zero] at d0 d1;have o3:=own_setZ O2.out 0 (by rw [HN.out];omega) y;simp only [Nat.add_zero] at o3;have h3:=(Below.heap_setCell w2 ⟨g,off,none⟩ (.int .i64 y) a (fun he=>ga he.symm)).trans H2.out;have m3:=M2.out.setCell (a:=⟨g,off,none⟩) (fun he=>HA.out.2.1 (by rw [he];rfl)) (.int .i64 y);have t3:=T2.out.setCell (p:=⟨g,off,none⟩) (.inl (.inr (.inl rfl))) (.int .i64 y);go_upto_region 4 with fail;have O3:=LH o3.drew;have H3:Hid ((w2.setCell ⟨g,off,none⟩ (.int .i64 y)).drew.heap[a]? =_):=LH h3;have M3:Hid ((w2.setCell ⟨g,off,none⟩ (.int .i64 y)).drew.ownsMap Tryz.prog 3 (unitElem (H:=Unit)) b (n+1) D):=LH m3;have T3:=LH t3.drew;clear o3 h3 m3 t3
 go_region
 generalize (w2.setCell ⟨g,off,none⟩ (.int .i64 y)).drew=w3 at O3 H3 M3 T3⊢;clear c2 z2 zg2 fg d0 d1 H2 O2 M2 T2;have c3:=bC H3.out;have f3:=bF H3.out;have z3:=lB H3.out;have hnc:n≤cap:=by omega
 have o4:=O3.out.upTo (k:=n) (by rw [List.length_set,HN.out];omega)
 have S4:Hid (AgS (w3.setCell ⟨a,0,none⟩ (.slice (some ⟨g,off,none⟩) n cap)) a b (((x :: L).set 0 y).take n) (n+1) D (footA a (.slice (some ⟨g,off,none⟩) (n+1) cap) b)):=
  LH ⟨.slice (some ⟨g,off,none⟩) n cap,zH (i:=0) H3.out (.slice (some ⟨g,off,none⟩) n cap),o4.setCell (p:=⟨a,0,none⟩) (o4.ne_block H3.out (by decide)) _,M3.out.setCell (a:=⟨a,0,none⟩) (fun he=>HA.out.2.2 he.symm) _,rfl⟩
 have T4:=LH (T3.out.setCell (p:=⟨a,0,none⟩) (.inl (.inl rfl)) (.slice (some ⟨g,off,none⟩) n cap));clear o4 H3 M3 T3 O3;go_upto_region 6 with fail;generalize w3.setCell ⟨a,0,none⟩ (.slice (some ⟨g,off,none⟩) n cap) =w4 at S4 T4⊢;generalize hFe:footA a (.slice (some ⟨g,off,none⟩) (n+1) cap) b=F at S4 T4;have HFe:=LH hFe;clear hFe;generalize ((x :: L).set 0 y).take n=M' at S4 HM2 HML HPop;clear c3 f3 z3;have HSk:=LH (ag_sink_any w4 a b (n+1) M' D F S4.out HM2.out (by rw [HML.out];omega));rw [HML.out] at HSk;go_wp2_with fail;refine HSk.out.mono ?_;rintro e w5 ⟨rfl,hs5,ht5⟩;have HS5:=LH hs5;have T5:=LH (T4.out.trans ht5 Grow.refl);rw [←HPop.out] at HS5;obtain⟨v5,hh5,ho5,hm5,hF5⟩:=HS5.out;have c5:=bC hh5;have z5:=lB hh5;have M5:=LH hm5;have HH5:=LH hh5;have HO5:=LH ho5;have HA5:=LH (AgS.apart hh5 ho5 hm5);clear hs5 ht5 hm5 hh5 ho5 HSk;go_wp2_with ((at_delete;refine wpList_delete_own _ rfl _ _ 366 3 rfl 370 keyI' Tryz.underlying366 (unitElem (H:=Unit)) b (n+1) D rfl M5.out _ _ rfl HK.out ?_;intro w6 hown6 hturn6));have hg6:=hturn6.grown
 have A6:AgAt w6 a b (popH (x :: L)) F:=by
  refine⟨D.del (.int .i64 x),⟨v5,?_,?_,?_,hF5⟩,HSet.out⟩
  ·exact(hg6.block a (lB HH5.out) (by simp only [ne_eq,Option.some.injEq];exact HA5.out.2.2)).trans HH5.out
  ·exact HO5.out.kept hg6 (.inr HA5.out.2.1)
  ·have:=ownsMap_shrink hown6
   rwa [HSet.out.size] at this
 have T6:=T5.out.grown hg6 (fun z hz=>by cases hz;exact .inl (by rw [hF5];exact .inr (.inr rfl)));refine bR (v:=.tuple #[.int .i64 x,.bool true]) (by simp only [results,Tryz.results303];go_simp) rfl ⟨rfl,?_,?_⟩
 ·rw [HFe.out];exact A6
 ·rw [HFe.out];exact T6
end
section
open Go.ChangeShapes Go.WideShapes Go.ChangeAt Go.RowKit Go.Maps
def AgPutPost (w:World) (a b:Nat) (L:List Int) (F:Nat→Prop) (e:Ending) (w':World) :Prop:=∃(t:Bool) (F':Nat→Prop),e=.returned (.bool t)∧AgAt w' a b L F'∧Turn F w w'∧Grow w F F'
theorem ag_Put (w:World) (a b:Nat) (L:List Int) (F:Nat→Prop) (h:AgAt w a b L F) (id:Int) (h2:id≤9223372036854775807) (hL: ∀x∈L,1≤x∧x≤9223372036854775807) (hlen:L.length≤1000000000000) :
 Calls Tryz.prog 306 #[.pointer (some ⟨a,0,none⟩),.int .i64 id] w (AgPutPost w a b (putW L id) F):=by
 by_cases h1:id<1
 ·have e:putW L id=L:=by unfold putW;rw [if_pos (.inl h1)]
  rw [e];refine(ag_Put_no w a id h1).mono ?_;rintro e w' ⟨rfl,hb⟩;exact⟨false,F,rfl,h.below hb,.of_below hb,Grow.refl⟩
 ·by_cases hid:id∈L
  ·have e:putW L id=L:=by unfold putW;rw [if_pos (.inr hid)]
   rw [e];refine(ag_Put_in w a b L F h id hid (by omega) h2).mono ?_;rintro e w' ⟨rfl,hb⟩;exact⟨false,F,rfl,h.below hb,.of_below hb,Grow.refl⟩
  ·have e:putW L id=putH L id:=by unfold putW;rw [if_neg (by rintro(h|h);exact h1 h;exact hid h)]
   rw [e];refine(ag_Put_new w a b L F h id hid (by omega) h2 hL hlen).mono ?_;rintro e w' ⟨F',rfl,ha,ht,hg⟩;exact⟨true,F',rfl,ha,ht,hg⟩
def putAll (ids:List Int) :List Int:=ids.foldl putW []
theorem putAll_snoc {ids:List Int} {q:Nat} (h:q<ids.length) :putAll (ids.take (q+1)) =putW (putAll (ids.take q)) ids[q]:=by
 unfold putAll;rw [List.take_succ_eq_append_getElem h,List.foldl_append];rfl
theorem foldW_len (ids:List Int) : ∀L:List Int,(ids.foldl putW L).length≤L.length+ids.length:=by
 induction ids with
 |nil=>intro L;simp
 |cons x ids ih=>
  intro L;have h1:=ih (putW L x);have h2:=putW_len L x;simp only [List.foldl_cons,List.length_cons];omega
theorem putAll_len (ids:List Int) : (putAll ids).length≤ids.length:=by
 have:=foldW_len ids []
 simpa [putAll] using this
theorem foldW_mem (ids:List Int) : ∀(L:List Int) (z:Int),z∈ids.foldl putW L↔z∈L∨(1≤z∧z∈ids):=by
 induction ids with
 |nil=>intro L z;simp
 |cons x ids ih=>
  intro L z;rw [List.foldl_cons,ih,putW_mem,List.mem_cons]
  constructor
  ·rintro((h| ⟨h1,rfl⟩) | ⟨h1,h2⟩)
   ·exact .inl h
   ·exact .inr ⟨h1,.inl rfl⟩
   ·exact .inr ⟨h1,.inr h2⟩
  ·rintro(h| ⟨h1,h2|h2⟩)
   ·exact .inl (.inl h)
   ·exact .inl (.inr ⟨h2 ▸ h1,h2⟩)
   ·exact .inr ⟨h1,h2⟩
theorem putAll_mem (ids:List Int) (z:Int) :z∈putAll ids↔1≤z∧z∈ids:=by
 unfold putAll;rw [foldW_mem];simp
theorem foldW_wait (ids:List Int) : ∀L:List Int,WaitL L→WaitL (ids.foldl putW L):=by
 induction ids with
 |nil=>intro L h;exact h
 |cons x ids ih=>intro L h;exact ih _ (h.put x)
theorem putAll_wait (ids:List Int) :WaitL (putAll ids):=foldW_wait ids [] .nil
theorem putAll_vals {ids:List Int} (h: ∀x∈ids,x≤9223372036854775807) : ∀x∈putAll ids,1≤x∧x≤9223372036854775807:=fun x hx=>⟨((putAll_mem ids x).1 hx).1,h x ((putAll_mem ids x).1 hx).2⟩
def AgNewPost (w:World) (L:List Int) (e:Ending) (w':World) :Prop:=∃(a b:Nat) (F:Nat→Prop),e=.returned (.pointer (some ⟨a,0,none⟩))∧AgAt w' a b L F∧(∀x,F x→w.heap.size≤x)∧Below w.heap.size w w'
theorem fold_New (w:World) (A:Option Addr) (cap:Nat) (ids:List Int) (hS:Sl w w.heap.size encZ A ids) (hI: ∀x∈ids,x≤9223372036854775807) (hlen:ids.length≤1000000000000) :
 Calls Tryz.prog 300 #[.slice A ids.length cap] w (AgNewPost w (putAll ids)):=by
 have hmm:=@run_makeMap Tryz.prog;have HS:=LH hS;have HI:=LH hI;clear hS hI
 go_enter Tryz.func300,Tryz.ntmps300
 have M0:=LH (World.ownsMap_made w Tryz.prog 3 (unitElem (H:=Unit)));have al:=fun (W:World) (o:Obj)=>(Below.refl W.heap.size W).alloc (Nat.le_refl _) o;have BW0:Hid (Below w.heap.size w ((w.alloc (.map #[] 0)).alloc (.cells #[.slice none 0 0,.map (some w.heap.size)] 368))):=LH bE
 have A0:Hid (∃F,AgAt ((w.alloc (.map #[] 0)).alloc (.cells #[.slice none 0 0,.map (some w.heap.size)] 368)) (w.heap.size+1) w.heap.size [] F∧∀x,F x→w.heap.size≤x):=LH ⟨_,⟨.map [],⟨.slice none 0 0,heap_new_at (w.alloc (.map #[] 0)) _ _ (by simp),.nil _ _ _ _,ownsMap_keep M0.out ((al (w.alloc (.map #[] 0)) _).block _ (by simp)),rfl⟩,⟨fun z=>by simp [Go.Maps.has],rfl⟩⟩,fun x hx=>by
  rcases hx with rfl|hx|rfl
  ·omega
  ·cases hx
  ·exact Nat.le_refl _⟩
 go_upto_region 2 with fail;generalize (w.alloc (.map #[] 0)).alloc (.cells #[.slice none 0 0,.map (some w.heap.size)] 368) =W0 at BW0 A0⊢;obtain⟨F0,hA0,hF0⟩:=A0.out;have HA0:=LH hA0;have HF0:=LH hF0;obtain⟨ga,hga⟩ : ∃ga,ga=w.heap.size+1:=⟨_,rfl⟩;obtain⟨gm,hgm⟩ : ∃gm,gm=w.heap.size:=⟨_,rfl⟩;rw [←hga,←hgm] at HA0;rw [←hga];clear A0 hA0 hF0 M0 al hga hgm;go_wp2_with fail
 go_loopw [11] (fun j wr=>∃(q:Nat) (F:Nat→Prop),q≤ids.length∧j=.int .i64 q∧AgAt wr ga gm (putAll (ids.take q)) F∧(∀x,F x→w.heap.size≤x)∧Below w.heap.size w wr) (fun j _=>ids.length - (intOf j).toNat)
 case atStart=>exact⟨0,F0,Nat.zero_le _,rfl,HA0.out,HF0.out,BW0.out⟩
 case round=>
  obtain⟨q,F,hq,rfl,hA,hF,hB⟩:=hrel;have HA:=LH hA;have HF:=LH hF;have HB:=LH hB;clear hA hF HA0;by_cases hlt:q<ids.length
  ·have hqi: (q:Int) < (ids.length:Int):=by omega
   obtain⟨b,off,rfl,hb,hc⟩:=HS.out.at_ hlt;have d0:=(hB.cell (p:=⟨b,off+q,none⟩) hb).trans (by have:=hc 0 (.int .i64 ids[q]) rfl;simpa using this);have lb:b<wr.heap.size:=Nat.lt_of_lt_of_le hb hB.size;have hx2:=HI.out _ (List.getElem_mem hlt);have HSn:=LH (putAll_snoc hlt);have hle:=putAll_len (ids.take q);rw [List.length_take] at hle;have HPut:=LH (fun W h=>ag_Put W ga gm (putAll (ids.take q)) F h ids[q] hx2 (putAll_vals fun x hx=>HI.out x (List.mem_of_mem_take hx)) (by omega));obtain⟨x,hx⟩ : ∃x,x=ids[q]:=⟨_,rfl⟩;rw [←hx] at d0 HPut HSn;clear hc hx hx2 hle hB;go_wp2_with fail;refine(HPut.out _ HA.out).mono ?_;rintro e w3 ⟨t,F',rfl,hA3,hT3,hG3⟩
   have N3:Hid (AgAt w3 ga gm (putW (putAll (ids.take q)) x) F'∧(∀x,F' x→w.heap.size≤x)∧Below w.heap.size w w3):=LH ⟨hA3,fun y hy=>by
    rcases hG3 y hy with h|h
    ·exact HF.out y h
    ·exact Nat.le_trans HB.out.size h,HB.out.trans (hT3.below HF.out HB.out.size)⟩
   clear hA3 hT3 hG3;go_wp2_with fail;go_roundw
   case rel=>exact⟨q+1,F',by omega,by go_num,by rw [HSn.out];exact N3.out.1,N3.out.2.1,N3.out.2.2⟩
   case measure=>simp [intOf];omega
  ·obtain rfl:q=ids.length:=by omega
   have hqi:decide ((ids.length:Int) < (ids.length:Int)) =false:=by simp
   rw [List.take_length] at HA;go_wp2_with fail;go_ret;exact⟨ga,gm,F,rfl,HA.out,HF.out,HB.out⟩
end
section
variable {α:Type} {P:Program} {t e:TypeId} {size bytes:Nat} {z:Value} {F:Fence} {n:Nat}
theorem wpListIn_app {w:World} {ops:Array Oper} {rest:List Oper} {o:Oper} {a:Act} {Q:Exit→Act→World→Prop} (T:SliceTy P t e size bytes z) (hgd:o.guard=none) (s x:Operand)
 (ho:o.op=.call {callee:=.builtin .append,args:= #[s,x],argTypes:= #[t,t]}) (E:Enc α size) (base:Nat) (v:Value) (l:List α) (hs:a.eval s=v) (hown:Own w base e E v l)
 (A:Option Addr) (c:Nat) (l2:List α) (B:Nat) (hx:a.eval x=.slice A l2.length c) (hsrc:Sl w B E A l2) (hn: (l.length+l2.length) *bytes≤140737488355328) (hm:l.length+l2.length≤maxLen) (hbase:base≤w.heap.size)
 (h: ∀v' w',Own w' base e E v' (l ++ l2)→w.grownBy w' v.ownBlock→(v'.ownBlock=v.ownBlock∨v'.ownBlock=some w.heap.size)→Below base w w'→(l2≠ []→v'≠.slice none 0 0)→
   wpListIn F n P ops Q rest (a.put o.dst v') w') :wpListIn F n P ops Q (o :: rest) a w:=by
 refine wpListIn_plain hgd fun K hK=> ?_;obtain⟨v',w',hr,h2,h3,h4,h5⟩:=app_run T o.type w base v l hown A c l2 B hsrc hn hm hbase;unfold Oper.wpIn;refine⟨?_,?_⟩
 ·simp [Oper.about,ho,resolve,Target.leads,Sem.run_pure]
 ·rw [Oper.semAt_plain F _ _ (by rw [ho];intro c hc';cases hc')]
  simp only [execOp,ho,resolve,invoke,builtin,Sem.run_bind,Sem.run_pure,Result.andThen_ok,List.map_toArray,List.map_cons,List.map_nil,hs,hx,hr];exact hK _ _ (h v' w' h2 h3 h4 ((Below.refl base w).grown h3 hbase fun k hk=>(hown.lt k hk).1) h5)
theorem wpListIn_push {w:World} {ops:Array Oper} {rest:List Oper} {o:Oper} {a:Act} {Q:Exit→Act→World→Prop} (T:SliceTy P t e size bytes z) (hgd:o.guard=none) (s x:Operand)
 (ho:o.op=.call {callee:=.builtin .append,args:= #[s,x],argTypes:= #[t,t]}) (E:Enc α size) (W:World) (base:Nat) (v:Value) (l:List α) (hs:a.eval s=v) (hown:Own W base e E v l)
 (x0:α) (hx:a.eval x=.slice (some ⟨W.heap.size,0,none⟩) 1 1) (hw:w=W.alloc (.cells (E.enc x0).toArray e)) (hn: (l.length+1) *bytes≤140737488355328) (hm:l.length+1≤maxLen) (hbase:base≤W.heap.size)
 (h: ∀v' w',Own w' base e E v' (l ++ [x0])→W.grownBy w' v.ownBlock→W.heap.size<w'.heap.size→(v'.ownBlock=v.ownBlock∨v'.ownBlock=some (W.heap.size+1))→Below base W w'→v'≠.slice none 0 0→
   wpListIn F n P ops Q rest (a.put o.dst v') w') :wpListIn F n P ops Q (o :: rest) a w:=by
 subst hw;have hsl:=sl_lit W E [x0] e _ rfl;simp only [List.flatMap_cons,List.flatMap_nil,List.append_nil] at hsl;refine wpListIn_app T hgd s x ho E base v l hs (hown.alloc _) (some ⟨W.heap.size,0,none⟩) 1 [x0] _ (by simpa using hx) hsl (by simpa using hn) (by simpa using hm) (by simp;omega) fun v' w' h2 h3 h4 h5 h6=> ?_;have hs:=h3.size;simp at hs
 refine h v' w' h2 ⟨h3.os,h3.tape,h3.output,by omega,fun i hi hne=>(h3.block i (by simp;omega) hne).trans (Below.heap_alloc W _ i hi)⟩ (by omega) ?_ ?_ (h6 (by simp))
 ·rcases h4 with h4|h4
  ·exact .inl h4
  ·right;rw [h4];simp
 ·exact((Below.refl base W).alloc hbase _).trans h5
end
def KeepX (z:Nat) (X:Nat→Prop) (A B:World) :Prop:=A.heap.size≤B.heap.size∧∀(b:Nat) (cs:Array Value) (t:TypeId) (fr:Nat×Nat),b<z→¬X b→A.heap[b]? =some (.cells cs t fr)→B.heap[b]? =some (.cells cs t fr)
section
variable {z:Nat} {X:Nat→Prop} {A B C:World}
theorem row_grown {row:Option Nat} {b:Nat} {cs:Array Value} {t:TypeId} {fr:Nat×Nat} (h:A.heap[b]? =some (.cells cs t fr)) (hg:A.grownBy B row) (hr: ∀r,row=some r→∃o:Obj,A.heap[r]? =some o∧o.isCells=false) :B.heap[b]? =some (.cells cs t fr):=
 (grownBy_keeps_cells hg hr h rfl).trans h
theorem own_grown {α:Type} {size base e:Nat} {E:Enc α size} {v:Value} {l:List α} {row:Option Nat} (h:Own A base e E v l) (hg:A.grownBy B row) (hr: ∀r,row=some r→∃o:Obj,A.heap[r]? =some o∧o.isCells=false) :Own B base e E v l:=
 h.of_block fun g hv=>by
  rcases h with ⟨rfl,_⟩ | ⟨g1,o1,c1,u1,rfl,_,hh1,_⟩
  ·cases hv
  ·have:g1=g:=by simpa [Value.ownBlock] using hv
   subst this;exact grownBy_keeps_cells hg hr hh1 rfl
end
def SlX (w:World) (z:Nat) (X:Nat→Prop) (A:Option Addr) (es:List Int) :Prop:=es= []∨∃b off,A=some ⟨b,off,none⟩∧b<z∧¬X b∧∀i x,es[i]? =some x→w.cell? ⟨b,off+i,none⟩ =some (.int .i64 x)
section
attribute [local go_sem] Oper.semAt_some
theorem AgAt.mapb {w:World} {a b:Nat} {L:List Int} {F:Nat→Prop} (h:AgAt w a b L F) : (∃es clock,w.heap[b]? =some (.map es clock))∧F b∧b<w.heap.size:=by
 obtain⟨D,⟨v,h1,h2,h3,rfl⟩,_⟩:=h;have hl:=h3.lt;obtain⟨es,clock,hb,_⟩:=h3;exact⟨⟨es,clock,hb⟩,.inr (.inr rfl),hl⟩
theorem AgAt.ty {w:World} {a b:Nat} {L:List Int} {F:Nat→Prop} (h:AgAt w a b L F) {x:Nat} (hx:F x) :x=b∨TypeAt w x 368∨TypeAt w x 3:=by
 obtain⟨D,⟨v,h1,h2,h3,rfl⟩,_⟩:=h;rcases hx with rfl|hx|rfl
 ·exact .inr (.inl (.of h1))
 ·rcases h2 with ⟨rfl,_⟩ | ⟨g1,o1,c1,u1,rfl,_,hh1,_⟩
  ·cases hx
  ·cases hx;exact .inr (.inr (.of hh1))
 ·exact .inl rfl
theorem AgAt.not_type {w:World} {a b:Nat} {L:List Int} {F:Nat→Prop} (h:AgAt w a b L F) {x t:Nat} {cs:Array Value} {fr:Nat×Nat} (hx:w.heap[x]? =some (.cells cs t fr)) (h1:t≠368) (h2:t≠3) : ¬F x:=fun hf=>by
 rcases h.ty hf with rfl|ht|ht
 ·obtain⟨⟨es,clock,hm⟩,_⟩:=h.mapb
  rw [hx] at hm;cases hm
 ·exact h1 (typeAt_eq (.of hx) ht)
 ·exact h2 (typeAt_eq (.of hx) ht)
theorem AgAt.not_cells {w:World} {a b:Nat} {L:List Int} {F:Nat→Prop} (h:AgAt w a b L F) {x:Nat} {o:Obj} (hx:w.heap[x]? =some o) (ho:o.isCells=false) (hb:x≠b) : ¬F x:=fun hf=>by
 rcases h.ty hf with e| ⟨cs,fr,ht⟩ | ⟨cs,fr,ht⟩
 ·exact hb e
 ·rw [hx] at ht;cases ht;cases ho
 ·rw [hx] at ht;cases ht;cases ho
theorem AgAt.grown {w w':World} {a b:Nat} {L:List Int} {F:Nat→Prop} (h:AgAt w a b L F) {row:Option Nat} (hg:w.grownBy w' row) (hr: ∀r,row=some r→r≠b∧∃o:Obj,w.heap[r]? =some o∧o.isCells=false) :AgAt w' a b L F:=
 h.keep fun x hx=>hg.block x (h.lt x hx) fun e=>by
  obtain⟨hb,o,ho,hc⟩:=hr x e.symm;exact h.not_cells ho hc hb hx
theorem AgAt.turnN {w w':World} {a b:Nat} {L:List Int} {F:Nat→Prop} (h:AgAt w a b L F) (ht:Turn F w w') :KeepN w w':=
 ⟨ht.size,fun x cs fr hx=>ht.keep hx (h.not_type hx (by decide) (by decide))⟩
theorem AgAt.turnFrom {w w':World} {a b B:Nat} {L:List Int} {F:Nat→Prop} (h:AgAt w a b L F) (ht:Turn F w w') (hb:b<B) :KeepsFrom B w w':=
 ⟨ht.size,fun x o hB hx ho=>ht.keep hx (h.not_cells hx ho (by omega))⟩
theorem attach_take (r:List Nd) :r.attach.take r.length=r.attach:=by have:=List.take_length (l:=r.attach);rwa [List.length_attach] at this
theorem each_in (n Bs g K l:Nat) (r:List Nd) (F0:Nat→Prop) (w:World) (hn:1≤n) (hBs:w.heap[Bs]? =some (.cells #[.pointer (some ⟨g,0,none⟩)] 117 (0,0))) (hP:PoolAt w g K l r F0) (hr:r.length≤67108864) :
 SeqStopsK Fence.wide n Tryz.prog 325 #[.pointer (some ⟨Bs,0,none⟩)] (fun x: {x:Nd // x∈r}=> #[Value.int .i64 x.1.1,Value.int .i64 x.1.2]) KeepN (fun ys=>ys=r.attach) (fun pre=>pre <+: r.attach) r.length w:=fun q J Jx W hW hJ hJx hY h0=>by
 have kb:=bB hBs hW;have HP:=LH (hP.below hW);have cb:=bC kb;have HY:=LH hY;have HJ:=LH hJ;clear kb hBs hP hY hJ;refine callsIn_of_wp Tryz.func325 rfl trivial ?_ rfl;simp only [Tryz.ntmps325,List.size_toArray,List.length_cons,List.length_nil,Nat.reduceAdd,Nat.reduceSub,Array.replicate_succ,Array.replicate_zero,List.push_toArray,List.append_toArray,List.nil_append,List.cons_append]
 gi_wp2_with fail
 refine⟨trivial,?_⟩;refine(callsIn_wide.2 (pool_Snap _ g K l r F0 HP.out hr)).mono ?_;rintro e w1 ⟨v,rfl,ho,hb⟩;have HO:=LH ho;have J0:Hid (J [] w1):=LH (HJ.out _ _ _ none h0 (grownBy_of_below hb none) (fun _ h=>by cases h));have hs:=hb.size;obtain⟨A,cap,rfl,_⟩:=ho.form;clear ho hb h0
 gi_wp2_with fail
 gi_loopw [8] (fun i wr=>∃k:Nat,k≤r.length∧i=.int .i64 k∧Own wr W.heap.size 216 encN (.slice A r.length cap) r∧J (r.attach.take k) wr∧W.heap.size≤wr.heap.size) (fun i _=>r.length - (intOf i).toNat)
 case atStart=>exact⟨0,Nat.zero_le _,rfl,HO.out,J0.out,hs⟩
 case round=>
  obtain⟨k,hk,rfl,hown,hJk,hsz⟩:=hrel;have KO:=LH hown;have KJ:=LH hJk;clear hown hJk;by_cases hlt:k<r.length
  ·obtain⟨b,off,rfl,hT,hc⟩:=KO.out.slT.at_ hlt
   have d0:=hc 0 (.int .i64 r[k].1) rfl;have d1:=hc 1 (.int .i64 r[k].2) rfl;simp only [Nat.add_zero] at d0;have hlt':k<r.attach.length:=by rw [List.length_attach];exact hlt
   have hts:=List.take_succ_eq_append_getElem hlt';obtain⟨x,hx⟩ : ∃x,x=r[k]:=⟨_,rfl⟩;obtain⟨y,hy0⟩ : ∃y,y=r.attach[k]:=⟨_,rfl⟩;have hyx:y.1=x:=by rw [hy0,hx,List.getElem_attach]
   rw [←hx] at d0 d1;rw [←hy0] at hts;have HS:=LH hts;have hA:Below wr.heap.size wr (wr.alloc (.cells #[.int .i64 x.1,.int .i64 x.2] 216)):=(Below.refl _ _).alloc (Nat.le_refl _) _;have hJ2:=HJ.out _ _ _ none KJ.out (grownBy_of_below hA none) (fun _ h=>by cases h);obtain⟨fn,tmps,assign,body,hy,hR⟩:=HY.out (r.attach.take k) y _ hJ2 (by rw [List.length_take];omega);have KA:=LH (KO.out.below hA);rw [hyx] at hy;clear hc hts hx hJ2 hA hT hy0 hlt' hyx
   gi_wp2_with fail
   refine hR.mono ?_;rintro e w3 (⟨rfl,hJ3,hk3⟩ | ⟨rfl,hJx3⟩)
   ·have K3:=LH (hk3.own KA.out)
    have z3:=hk3.1;rw [←HS.out] at hJ3;have J3:=LH hJ3;clear hJ3 hk3
    gi_wp2_with fail
    go_roundw
    case rel=>exact⟨k+1,by omega,by go_num,K3.out,J3.out,by simp at z3;omega⟩
    case measure=>simp [intOf];omega
   ·rw [←HS.out] at hJx3
    have J3:=LH hJx3;clear hJx3
    gi_wp2_with fail
    refine bR (results_none rfl _ _ _) rfl ?_;exact⟨⟨_,rfl⟩,.inr ⟨_,List.take_prefix _ _,J3.out⟩⟩
  ·obtain rfl:k=r.length:=by omega
   rw [attach_take] at KJ
   gi_wp2_with fail
   go_end0
   exact⟨⟨_,rfl⟩,.inl ⟨_,rfl,KJ.out⟩⟩
def sliceLen:Value→Nat
 | .slice _ n _=>n
 |_=>0
theorem Drain.len {P O L:List Int} {x:Int} (h:O.length+ (x :: L).length=P.length) : (O ++ [x]).length+ (popH (x :: L)).length=P.length:=by
 rw [(popH_perm x L).length_eq];simp only [List.length_append,List.length_cons,List.length_nil] at h⊢;omega
def halves (r:List Nd) :List Int:=r.map fun x=>x.1 / 2
theorem halves_snoc (r:List Nd) (x:Nd) :putAll (halves (r ++ [x])) =putW (putAll (halves r)) (x.1 / 2):=by
 unfold halves putAll;rw [List.map_append,List.foldl_append];rfl
structure Drain (P:List Int) (O L:List Int) :Prop where
 wait:WaitL L
 up:O.Pairwise leA
 ahead: ∀o∈O,∀y∈L,leA o y
 mem: ∀z,z∈P↔z∈O∨z∈L
theorem Drain.start {P:List Int} (h:WaitL P) :Drain P [] P:=⟨h,.nil,by simp,by simp⟩
theorem Drain.step {P O L:List Int} {x:Int} (h:Drain P O (x :: L)) :Drain P (O ++ [x]) (popH (x :: L)):=by
 have hp:=popH_perm x L;refine⟨h.wait.pop,?_,?_,fun z=> ?_⟩
 ·rw [List.pairwise_append]
  exact⟨h.up,List.pairwise_singleton _ _,fun o ho y hy=>by rw [List.mem_singleton.1 hy];exact h.ahead o ho x (by simp)⟩
 ·intro o ho y hy
  have hy:=hp.mem_iff.1 hy;rcases List.mem_append.1 ho with ho|ho
  ·exact h.ahead o ho y (List.mem_cons_of_mem _ hy)
  ·rw [List.mem_singleton.1 ho];exact heap_head h.wait.heap y (List.mem_cons_of_mem _ hy)
 ·rw [h.mem,List.mem_append,List.mem_singleton,List.mem_cons,hp.mem_iff]
  constructor
  ·rintro(h|h|h)
   ·exact .inl (.inl h)
   ·exact .inl (.inr h)
   ·exact .inr h
  ·rintro((h|h) |h)
   ·exact .inl h
   ·exact .inr (.inl h)
   ·exact .inr (.inr h)
structure ParI (w:World) (ga gm pc:Nat) (pre:List Nd) (W:World) :Prop where
 p:W.heap[pc]? =some (.cells #[.pointer (some ⟨ga,0,none⟩)] 350 (0,0))
 a: ∃F,AgAt W ga gm (putAll (halves pre)) F∧∀x,F x→w.heap.size≤x
theorem fold_Parents (w:World) (g K l:Nat) (r:List Nd) (F:Nat→Prop) (hP:PoolAt w g K l r F) (hr:r.length≤67108864) :
 Calls Tryz.prog 301 #[.pointer (some ⟨g,0,none⟩)] w fun e w'=>∃(v:Value) (O:List Int),e=.returned v∧Own w' w.heap.size 3 encZ v O∧Drain (putAll (halves r)) O []∧O.length≤67108864∧Below w.heap.size w w':=by
 have hroll:=hP.fits.roll
 have hP2: ∀x∈r,1≤x.1∧x.1≤1000000000000000:=fun x hx=>by
  have h1:=isNode_lt (hP.fits.nodes hP.l_le x hx);have h2:=pow_48 hP.l_le.2;omega
 have hPv: ∀(pre:List {x:Nd // x∈r}) (y:Int),y∈halves (pre.map (·.1))→y≤9223372036854775807:=fun pre y hy=>by
  unfold halves at hy;obtain⟨z,hz,rfl⟩:=List.mem_map.1 hy;obtain⟨u,hu,rfl⟩:=List.mem_map.1 hz;have:=hP2 u.1 u.2;omega
 have HP:=LH hP;clear hP;refine(callsIn_wide (n:=3)).1 ?_;refine callsIn_of_wp_marks Tryz.func301 rfl trivial ?_ rfl;simp only [Tryz.ntmps301,List.size_toArray,List.length_cons,List.length_nil,Nat.reduceAdd,Nat.reduceSub,Array.replicate_succ,Array.replicate_zero,List.push_toArray,List.append_toArray,List.nil_append,List.cons_append]
 gi_wp2_with fail
 refine⟨trivial,?_⟩;refine(callsIn_wide.2 (fold_New _ none 0 [] .nil (by simp) (by simp))).mono ?_;rintro e w1 ⟨ga,gm,FA,rfl,hA,hFA,hb1⟩;have A1:=LH hA;have F1:=LH hFA;have B1:=LH hb1;clear hA hFA hb1
 gi_wp2_with fail
 refine⟨trivial,?_⟩;refine(callsIn_wide.2 (pool_Each _ g)).mono ?_;rintro e w4 ⟨rfl,rfl⟩
 gi_wp2_with fail
 have al:=fun (W:World) (o:Obj)=>(Below.refl W.heap.size W).alloc (Nat.le_refl _) o;have hb0:=(al w1 (.cells #[.pointer (some ⟨ga,0,none⟩)] 350)).trans ((al (w1.alloc (.cells #[.pointer (some ⟨ga,0,none⟩)] 350)) (.cells #[.pointer (some ⟨g,0,none⟩)] 117)).mono (by simp));have BW0:=LH (Below.then_ B1.out hb0);have kp:=(heap_new_lt (w1.alloc (.cells #[.pointer (some ⟨ga,0,none⟩)] 350)) (.cells #[.pointer (some ⟨g,0,none⟩)] 117) w1.heap.size (by simp)).trans (heap_alloc_new w1 (.cells #[.pointer (some ⟨ga,0,none⟩)] 350));have kb:=heap_new_at (w1.alloc (.cells #[.pointer (some ⟨ga,0,none⟩)] 350)) (.cells #[.pointer (some ⟨g,0,none⟩)] 117) (w1.heap.size+1) (by simp);have A0:=LH (A1.out.below hb0);have hgm:=A1.out.mapb.2.2;have hgm0:=F1.out gm A1.out.mapb.2.1;generalize (w1.alloc (.cells #[.pointer (some ⟨ga,0,none⟩)] 350)).alloc (.cells #[.pointer (some ⟨g,0,none⟩)] 117) =W0 at hb0 BW0 kp kb A0⊢;have zs0:=hb0.size;have zs1:=B1.out.size;have zsW:=BW0.out.size;have hpw:w.heap.size≤w1.heap.size:=zs1;have KP0:=LH kp;clear al hb0
 refine wpIn_rangeFunc_ownG rfl (by decide) (gf:=325) (lb:= #[.pointer (some ⟨w1.heap.size+1,0,none⟩)]) rfl trivial (enters_of Tryz.func325 (by kernel_rfl) rfl)
  (each_in (3 - 1) (w1.heap.size+1) g K l r F W0 (by decide) kb (HP.out.below BW0.out) hr) keepN_t (fun W q o o' _ h hc _=>keepN_b W q o o' h hc) (Below.refl _ _) (fun _=>rfl)
  (fun pre W=>ParI w ga gm w1.heap.size (pre.map (·.1)) W∧Below w.heap.size w W)
  (fun _ _ _=>False)
  (OwnFrom.and (fun s A B row hs hg hr=>⟨row_grown hs.p hg (fun q e=>(hr q e).2),by
    obtain⟨F',h1,h2⟩:=hs.a;exact⟨F',h1.grown hg (fun q e=>⟨by have:=(hr q e).1;omega,(hr q e).2⟩),h2⟩⟩) (ownFrom_below (Nat.le_refl _) zsW))
  (fun c=>fun _ _ _ _ hs _ _=>hs)
  ⟨⟨KP0.out,_,A0.out,F1.out⟩,BW0.out⟩
  (fun x=>{tmps:= #[.pointer (some ⟨g,0,none⟩),undef,.slice none 0 0,.pointer (some ⟨w1.heap.size,0,none⟩),.int .i64 x.1.1,undef,undef,undef,.pointer (some ⟨ga,0,none⟩),.pointer (some ⟨g,0,none⟩),.func (.func 325) #[] #[.pointer (some ⟨w1.heap.size+1,0,none⟩)],.int .i64 x.1.1,.int .i64 x.1.2,undef,undef,undef,undef,undef,undef,undef,undef,undef,undef,undef,undef,undef,undef,undef,undef,undef],defers:= []}) ?assign ?body ?done ?stop
 case assign=>
  intro q x W Kc hK
  gi_wp2
  exact hK
 case body=>
  rintro q pre x W ⟨⟨hp,F',hA,hF⟩,hB⟩ hlen;have HA:=LH hA;have HF:=LH hF;have HB:=LH hB;have HPc:=LH hp;have cp:=bC hp;have zp:=lB hp;have hx:=hP2 x.1 x.2
  have hlen2: (putAll (halves (pre.map (·.1)))).length≤r.length:=by
   have h1:=putAll_len (halves (pre.map (·.1)));have h2: (halves (pre.map (·.1))).length=pre.length:=by simp [halves]
   omega
  have hsn:=halves_snoc (pre.map (·.1)) x.1;have HSn:=LH hsn;have HPut:=LH (fun W h=>ag_Put W ga gm (putAll (halves (pre.map (·.1)))) F' h (x.1.1 / 2) (by omega) (putAll_vals fun y hy=>hPv pre y hy) (by omega));obtain⟨⟨x1,x2⟩,hxm⟩:=x;simp only at hx HPut HSn;clear hA hF hB hp hlen2 hsn
  gi_wp2_with fail
  refine⟨trivial,?_⟩;refine(CallsIn.inRound q (callsIn_wide.2 (HPut.out _ HA.out))).mono ?_;rintro e w5 ⟨t,F5,rfl,hA5,hT5,hG5⟩;have KW:Hid (KeepsFrom W0.heap.size W w5):=LH (HA.out.turnFrom hT5 (by omega));have KN:=LH (HA.out.turnN hT5);have KP5:=LH (hT5.keep HPc.out (HA.out.not_type HPc.out (by decide) (by decide)));have BB5:=LH (HB.out.trans (hT5.below HF.out HB.out.size));have KA5:=LH hA5
  have KF5:Hid (∀y,F5 y→w.heap.size≤y):=LH fun y hy=>by
   rcases hG5 y hy with h|h
   ·exact HF.out y h
   ·exact Nat.le_trans HB.out.size h
  clear hA5 hT5 hG5 cp
  gi_wp2_with fail
  exact⟨KW.out,KN.out,⟨KP5.out,F5,by rw [List.map_append];exact HSn.out ▸ KA5.out,KF5.out⟩,BB5.out⟩
 case done=>
  rintro D ys W hD hys ⟨⟨hp,F',hA,hF⟩,hB⟩ hK;have hys':ys=r.attach:=hys;rw [hys',List.attach_map_subtype_val] at hA;clear hys hys';have HA:=LH hA;have HF:=LH hF;have HB:=LH hB;have HPc:=LH hp;have cp:=bC hp;have zp:=lB hp;have HK:=LH hK;have zD:D<W.heap.size:=lB hK;have hDm:D≠gm:=by omega
  have hFW:=hA.lt;have HFW:=LH hFW;have hDF: ¬F' D:=hA.not_cells hK rfl hDm;have HDF:=LH hDF;have hpF: ¬F' w1.heap.size:=hA.not_type hp (by decide) (by decide);have HPF:=LH hpF;have hwW:=hB.size;have hPl:=putAll_len (halves r);have hPl2: (halves r).length=r.length:=by simp [halves]
  have hPV: ∀y∈putAll (halves r),1≤y∧y≤9223372036854775807:=putAll_vals fun y hy=>hPv r.attach y (by rw [List.attach_map_subtype_val];exact hy);have HPV:=LH hPV;have hdr:=Drain.start (putAll_wait (halves r));have HDr:=LH hdr;obtain⟨P,hPe⟩ : ∃P,P=putAll (halves r):=⟨_,rfl⟩;have HPe:=LH hPe;rw [←hPe] at HA HPV HDr hPl;have hPl3:P.length≤67108864:=by omega
  clear hA hF hB hp hK hFW hDF hpF hPV hdr hPe hPl hPl2
  gi_wp2_with fail
  gi_loopw [5,6,7] (fun v _ _ wr=>∃(O L:List Int),Own wr W.heap.size 3 encZ v O∧Drain P O L∧O.length+L.length=P.length∧AgAt wr ga gm L F'∧wr.heap[w1.heap.size]? =some (.cells #[.pointer (some ⟨ga,0,none⟩)] 350 (0,0))∧wr.heap[D]? =some (.deferred (some []))∧W.heap.size≤wr.heap.size∧Below w.heap.size w wr) (fun v _ _ _=>P.length - sliceLen v)
  case atStart=>exact⟨[],P,.nil _ _ _ _,HDr.out,by simp,HA.out,HPc.out,HK.out,Nat.le_refl _,HB.out⟩
  case round=>
   obtain⟨O,L,hO,hDr,hln,hA,hpc,hK,hsz,hB⟩:=hrel;have KO:=LH hO;have KD:=LH hDr;have KA:=LH hA;have KP:=LH hpc;have KK:=LH hK;have KB:=LH hB;have cp:=bC hpc;have zp:=lB hpc;obtain⟨Ao,co,rfl,_⟩:=hO.form;obtain⟨Dm,hAS,_⟩:=hA;have HLn:=LH (ag_Len _ ga gm _ L Dm F' hAS);clear hO hDr hpc hK hAS HA HPc HK HB HDr
   gi_wp2_with fail
   refine⟨trivial,?_⟩;refine(callsIn_wide.2 HLn.out).mono ?_;rintro e w5 ⟨rfl,hb5⟩;have s5:=hb5.size;have KO5:=LH (KO.out.below hb5);have KA5:=LH (KA.out.below hb5);have KP5:=LH (bB KP.out hb5);have KK5:=LH ((hb5.block D (by omega)).trans KK.out);have KB5:=LH (Below.then_ KB.out hb5);clear hb5 hB cp zp HLn
   cases L with
   |nil=>
    simp only [List.length_nil];have hres:Hid (Drain (putAll (halves r)) O []):=LH (HPe.out ▸ KD.out)
    gi_wp2_with fail
    have hK5:=KK5.out;refine⟨by simp,.inl ⟨_,_,rfl,run_takeDeferred hK5,?_⟩⟩;have ho2:=(own_grown KO5.out (grownBy_putObj' w5 D (.deferred none)) (fun r e=>by cases e;exact⟨_,hK5,rfl⟩)).base_le (b:=w.heap.size) hwW;exact⟨.slice Ao O.length co,by simp [results,Tryz.f301,go_sem],.slice Ao O.length co,O,rfl,ho2,hres.out,by simp only [List.length_nil] at hln;omega,KB5.out.trans (belowK_b (w:=w) (Nat.le_refl _) w5 D _ _ (by omega) hK5 rfl rfl)⟩
   |cons x L=>
    have hxL:x∉L:=(List.nodup_cons.1 KD.out.wait.once).1;have hpv: ∀y∈x :: L,1≤y∧y≤9223372036854775807:=fun y hy=>HPV.out y ((KD.out.mem y).2 (.inr hy));have hlL:L.length≤67108864:=by simp only [List.length_cons] at hln;omega
    have HPop:=LH (fun W h=>ag_Pop W ga gm x L F' h hxL hpv (by omega));have HDs:=LH KD.out.step;have HLn:=LH (Drain.len hln);have hOl:O.length≤67108864:=by simp only [List.length_cons] at hln;omega
    have hl1: (x :: L).length=L.length+1:=by simp
    have cp:=bC KP5.out;have zp:=lB KP5.out;have hmes:O.length<P.length:=by simp only [List.length_cons] at hln;omega
    rw [hl1];clear hxL hpv KD hl1 hln
    gi_wp2_with fail
    refine⟨trivial,?_⟩;refine(callsIn_wide.2 (HPop.out _ KA5.out)).mono ?_;rintro e w6 ⟨rfl,hA6,hT6⟩;have s6:=hT6.size;have KA6:=LH hA6;have KO6:=LH (hT6.own KO5.out (fun b hb hf=>by have:=(KO5.out.lt b hb).1;have:=HFW.out b hf;omega));have KP6:=LH (hT6.keep KP5.out HPF.out);have KK6:=LH (hT6.keep KK5.out HDF.out);have KB6:=LH (KB5.out.trans (hT6.below HF.out KB5.out.size));clear hA6 hT6 cp zp KA5 KO5 KP5 KK5 KB5
    gi_wp2_with ((gi_at_builtin;refine wpListIn_push tyZ rfl _ _ rfl encZ w6 W.heap.size (.slice Ao O.length co) O rfl KO6.out x (by go_simp) rfl ?a1 ?a2 ?a3 ?a4))
    case a1=>omega
    case a2=>simp only [maxLen];omega
    case a3=>omega
    case a4=>
     intro v7 w7 ho7 hg7 _ _ hb7 _;have KO7:=LH ho7;have s7:=hg7.size;have hne: ∀b,b<W.heap.size→some b≠(Value.slice Ao O.length co).ownBlock:=fun b hb h=>by have:=(KO6.out.lt b h.symm).1;omega
     have KA7:=LH (KA6.out.keep fun b hb=>hg7.block b (by have:=HFW.out b hb;omega) (hne b (HFW.out b hb)));have KP7:=LH ((hg7.block w1.heap.size (by omega) (hne _ (by omega))).trans KP6.out);have KK7:=LH ((hg7.block D (by omega) (hne _ (by omega))).trans KK6.out);have KB7:=LH (KB6.out.trans (hb7.mono hwW))
     have h7:sliceLen v7=O.length+1:=by
      obtain⟨A7,c7,rfl,_⟩:=KO7.out.form;simp [sliceLen]
     clear ho7 hg7 hb7
     gi_wp2_with fail
     go_roundw
     case rel=>exact⟨O ++ [x],popH (x :: L),KO7.out,HDs.out,HLn.out,KA7.out,KP7.out,KK7.out,by omega,KB7.out⟩
     case measure=>rw [h7];simp only [sliceLen];omega
 case stop=>
  rintro D c pre W hD hpre h hK;exact h.elim
end
def FirstPost (l:Nat) (most:Int) (r:List Nd) (w:World) (e:Ending) (w':World) :Prop:=
 ∃(id:Int) (ok:Bool),e=.returned (.tuple #[.int .i64 id,.bool ok])∧(ok=true→FirstIs l most r id)∧(ok=false→∀p,readyR l r p most=false)∧Below w.heap.size w w'
def wUp:List Nd→Int→Int
 | [],_=>0
 |y :: l,x=>(if y.1≤x then y.2 else 0) +wUp l x
structure Tab (l t:List Nd) :Prop where
 rise:t.Pairwise fun a b=>a.1<b.1
 up: ∀z∈t,z.2=wUp l z.1
 all: ∀y∈l,∃z∈t,z.1=y.1
 of: ∀z∈t,∃y∈l,y.1=z.1
def atMost (t:List Nd) (x:Int) :Nat:=(List.range t.length).countP fun i=> !decide (x< (t.getD i (0,0)).1)
abbrev Rdg:={x:Nd // 0≤x.1∧x.1≤281474976710655}
instance:Inhabited Rdg:=⟨⟨(0,0),by decide⟩⟩
def encQ:Enc Rdg 2:=⟨fun x=> [.int .i64 x.1.1,.int .i64 x.1.2],fun _=>rfl,by intro x u hu;simp at hu;rcases hu with rfl|rfl <;> rfl⟩
def Sep (u v:Value) :Prop:=∀g,u.ownBlock=some g→v.ownBlock≠some g
theorem Sep.symm {u v:Value} (h:Sep u v) :Sep v u:=fun g h1 h2=>h g h2 h1
def MadePost (v:Value) (l:List Nd) (w:World) (e:Ending) (w':World) :Prop:=
 ∃t A1 c1 A2 c2,e=.returned (.agg #[.slice A1 t.length c1,.slice A2 t.length c2])∧Tab l t∧t.length≤l.length∧Own w' w.heap.size 3 encZ (.slice A1 t.length c1) (t.map (·.1))∧Own w' w.heap.size 3 encZ (.slice A2 t.length c2) (t.map (·.2))∧Turn (fun b=>v.ownBlock=some b) w w'
section
variable {w:World} {base B b0 bs:Nat} {vl:Value} {ll:List Nd} {V1 V2:Value} {W W':World} {U1 U1':Value} {L1 L1':List Int} {U2 U2':Value} {L2 L2':List Int}
end
theorem sl_cell {W:World} {b o:Nat} {x:Int} (h:W.cell? ⟨b,o,none⟩ =some (.int .i64 x)) (hb:b<W.heap.size) :Sl W W.heap.size encZ (some ⟨b,o,none⟩) [x]:=
 .inr ⟨b,o,rfl,hb,fun i y hi j u hj=>by
  cases i with
  |succ i=>simp at hi
  |zero=>
   simp at hi;subst hi
   cases j with
   |succ j=>simp [encZ] at hj
   |zero=>simp [encZ] at hj;subst hj;simpa using h⟩
theorem sum_part {l:List Nd} (h: ∀z∈l,1≤z.2) {q:Nat} (hq:q<l.length) :0≤sumR (l.take q)∧sumR (l.take q) +l[q].2≤sumR l:=by
 induction l generalizing q with
 |nil=>exact absurd hq (Nat.not_lt_zero _)
 |cons x l ih=>
  have hx:=h x (by simp)
  cases q with
  |zero=>
   have: ∀l:List Nd,(∀z∈l,1≤z.2)→0≤sumR l:=fun l=>by
    intro hl
    induction l with
    |nil=>simp [sumR]
    |cons y l ih2=>have:=hl y (by simp);have:=ih2 fun z hz=>hl z (by simp [hz]);simp only [sumR];omega
   have:=this l fun z hz=>h z (by simp [hz]);simp [sumR];omega
  |succ q=>
   have:=ih (fun z hz=>h z (by simp [hz])) (q:=q) (by simpa using hq);simp only [List.take_succ_cons,sumR,List.getElem_cons_succ];omega

def betw (l:Int) (r:List Nd) (a b:Int) :Int×Int×Int:=if b<a then (0,0,2) else (betwLow l r a b,betwHigh l r a b,0)
def share (l:Int) (r:List Nd) (a b d:Int) :Int×Int×Int:=
 if sumR r=0 then (0,0,7) else if d<1∨b<a then (0,0,2) else (((betwLow l r a b).toNat*d.toNat / (sumR r).toNat:Nat),(upV (betwHigh l r a b).toNat d.toNat (sumR r).toNat:Nat),0)
def bothV (t:Int×Int×Int) :Value:=.tuple #[.agg #[.int .i64 t.1,.int .i64 t.2.1],.int .i64 t.2.2]
def upT (t:List Nd) (x:Int) :Int:=if atMost t x=0 then 0 else (t.getD (atMost t x - 1) (0,0)).2


theorem tyRd:SliceTy Tryz.prog 33 165 2 16 (.agg #[.int .i64 0,.int .i64 0]):=⟨Tryz.underlying33,by kernel_rfl,rfl,by decide⟩

def bagV (l:Int) (A:Option Addr) (n cap:Nat) :Value:=.agg #[.int .i64 l,.slice A n cap]
theorem sumV_take {m:List Nd} {q:Nat} (h:q<m.length) :sumR (m.take (q+1)) =sumR (m.take q) +m[q].2:=by
 rw [List.take_succ_eq_append_getElem h,sumR_append];simp [sumR]
theorem sumV_take_le {m:List Nd} (h: ∀x∈m,1≤x.2) (q:Nat) :0≤sumR (m.take q)∧sumR (m.take q)≤sumR m:=by
 have e1:sumR m=sumR (m.take q) +sumR (m.drop q):=by rw [←sumR_append,List.take_append_drop]
 have e3:=(sumR_pos (m:=m.drop q) fun y hy=>h y (List.mem_of_mem_drop hy)).1;have e4:=(sumR_pos (m:=m.take q) fun y hy=>h y (List.mem_of_mem_take hy)).1;omega
theorem ref10_Total (w:World) (l:Int) (A:Option Addr) (cap:Nat) (m:List Nd) (hS:Sl w w.heap.size encN A m) (hv: ∀x∈m,1≤x.2) (hs:sumR m≤72057594037927935) :
 Calls Tryz.prog 47 #[bagV l A m.length cap] w fun e w'=>e=.returned (.int .i64 (sumR m))∧Below w.heap.size w w':=by
 have hml: (m.length:Int)≤72057594037927935:=by have:=(sumR_pos hv).2;omega
 have HS:=LH hS;have HV:=LH hv;clear hS hv;unfold bagV;have X0:Hid ((w.alloc (.cells #[.int .i64 l,.slice A m.length cap] 35)).heap[w.heap.size]? =some (.cells #[.int .i64 l,.slice A m.length cap] 35 (0,0))):=LH (heap_alloc_new w _)
 go_enter Tryz.func47,Tryz.ntmps47
 go_wp2_with fail
 go_loopw [3,4] (fun n j wr=>∃q:Nat,q≤m.length∧j=.int .i64 q∧n=.int .i64 (sumR (m.take q))∧wr.heap[w.heap.size]? =some (.cells #[.int .i64 l,.slice A m.length cap] 35 (0,0))∧Below w.heap.size w wr) (fun _ j _=>m.length - (intOf j).toNat)
 case atStart=>exact⟨0,Nat.zero_le _,rfl,rfl,X0.out,bE⟩
 case round=>
  obtain⟨q,hq,rfl,rfl,hX,hB⟩:=hrel;have c0:wr.cell? ⟨w.heap.size,1,none⟩ =some (.slice A m.length cap):=by rw [bC hX];rfl
  have z0:=lB hX;have HX:=LH hX;clear hX;by_cases hlt:q<m.length
  ·have hE:=LH (sumV_take hlt)
   obtain⟨b,off,rfl,hb,hc⟩:=HS.out.at_ hlt;have d0:=(hB.cell (p:=⟨b,off+q*2+1,none⟩) hb).trans (hc 1 (.int .i64 m[q].2) rfl);have lb:b<wr.heap.size:=Nat.lt_of_lt_of_le hb hB.size;have v1:=HV.out _ (List.getElem_mem hlt);have s0:=(sumV_take_le HV.out q).1;have s1:=(sumV_take_le HV.out (q+1)).2;rw [hE.out] at s1;obtain⟨c,hc1⟩ : ∃c,c=m[q].2:=⟨_,rfl⟩;rw [←hc1] at d0 v1 s1 hE;obtain⟨n,hn⟩ : ∃n,n=sumR (m.take q):=⟨_,rfl⟩;rw [←hn] at s0 s1 hE⊢;have hsum:n+c≤72057594037927935:=by omega
   clear hc s1 hn;go_wp2_with fail;go_roundw
   case rel=>exact⟨q+1,by omega,by go_num,by(rw [hE.out];try go_num),HX.out,hB⟩
   case measure=>simp [intOf];omega
  ·obtain rfl:q=m.length:=by omega
   rw [List.take_length];go_wp2_with fail;go_ret;exact⟨rfl,hB⟩
theorem betwB_take {m:List Nd} {q:Nat} (h:q<m.length) (x y:Int) :betwB (m.take (q+1)) x y=betwB (m.take q) x y+if x≤m[q].1∧m[q].1≤y then m[q].2 else 0:=by
 rw [List.take_succ_eq_append_getElem h,betwB_append,betwB_one]
theorem ref10_Between (w:World) (l:Int) (A:Option Addr) (cap:Nat) (m:List Nd) (x y:Int) (hS:Sl w w.heap.size encN A m) (hv: ∀x∈m,1≤x.2) (hs:sumR m≤72057594037927935) :
 Calls Tryz.prog 121 #[bagV l A m.length cap,.int .i64 x,.int .i64 y] w fun e w'=>e=.returned (.int .i64 (betwB m x y))∧Below w.heap.size w w':=by
 have hml: (m.length:Int)≤72057594037927935:=by have:=(sumR_pos hv).2;omega
 have HS:=LH hS;have HV:=LH hv;clear hS hv;unfold bagV;have X0:Hid ((w.alloc (.cells #[.int .i64 l,.slice A m.length cap] 35)).heap[w.heap.size]? =some (.cells #[.int .i64 l,.slice A m.length cap] 35 (0,0))):=LH (heap_alloc_new w _)
 go_enter Tryz.func121,Tryz.ntmps121
 go_wp2_with fail
 go_loopw [7,8] (fun n j wr=>∃q:Nat,q≤m.length∧j=.int .i64 q∧n=.int .i64 (betwB (m.take q) x y)∧wr.heap[w.heap.size]? =some (.cells #[.int .i64 l,.slice A m.length cap] 35 (0,0))∧Below w.heap.size w wr) (fun _ j _=>m.length - (intOf j).toNat)
 case atStart=>exact⟨0,Nat.zero_le _,rfl,rfl,X0.out,bE⟩
 case round=>
  obtain⟨q,hq,rfl,rfl,hX,hB⟩:=hrel;have c0:wr.cell? ⟨w.heap.size,1,none⟩ =some (.slice A m.length cap):=by rw [bC hX];rfl
  have z0:=lB hX;have HX:=LH hX;clear hX;by_cases hlt:q<m.length
  ·have hE:=LH (betwB_take hlt x y)
   obtain⟨b,off,rfl,hb,hc⟩:=HS.out.at_ hlt;have d0:=(hB.cell (p:=⟨b,off+q*2+1,none⟩) hb).trans (hc 1 (.int .i64 m[q].2) rfl);have d1:=(hB.cell (p:=⟨b,off+q*2,none⟩) hb).trans (by have:=hc 0 (.int .i64 m[q].1) rfl;simpa using this);have lb:b<wr.heap.size:=Nat.lt_of_lt_of_le hb hB.size;have v1:=HV.out _ (List.getElem_mem hlt);have s0:=(betwB_le (m:=m.take q) (fun u hu=>HV.out u (List.mem_of_mem_take hu)) x y);have s1:=(sumV_take_le HV.out (q+1)).2;rw [sumV_take hlt] at s1;obtain⟨c,hc1⟩ : ∃c,c=m[q].2:=⟨_,rfl⟩;obtain⟨v,hv1⟩ : ∃v,v=m[q].1:=⟨_,rfl⟩;rw [←hc1] at d0 v1 s1 hE;rw [←hv1] at d1 hE;obtain⟨n,hn⟩ : ∃n,n=betwB (m.take q) x y:=⟨_,rfl⟩;rw [←hn] at s0 hE⊢;have n0:=s0.1;have hsum:n+c≤72057594037927935:=by have:=s0.2;omega
   clear hc s0 s1 hn hc1 hv1;by_cases k1:x≤v
   ·by_cases k2:v≤y
    ·rw [if_pos ⟨k1,k2⟩] at hE
     go_wp2_with fail;go_roundw
     case rel=>exact⟨q+1,by omega,by go_num,by(rw [hE.out];try go_num),HX.out,hB⟩
     case measure=>simp [intOf];omega
    ·rw [if_neg (by omega)] at hE
     have k2':decide (v≤y) =false:=by simpa using k2
     go_wp2_with fail;go_roundw
     case rel=>exact⟨q+1,by omega,by go_num,by rw [hE.out,Int.add_zero],HX.out,hB⟩
     case measure=>simp [intOf];omega
   ·rw [if_neg (by omega)] at hE
    have k1':decide (x≤v) =false:=by simpa using k1
    go_wp2_with fail;go_roundw
    case rel=>exact⟨q+1,by omega,by go_num,by rw [hE.out,Int.add_zero],HX.out,hB⟩
    case measure=>simp [intOf];omega
  ·obtain rfl:q=m.length:=by omega
   rw [List.take_length];go_wp2_with fail;go_ret;exact⟨rfl,hB⟩
theorem ref10_Rank (w:World) (l:Int) (A:Option Addr) (cap:Nat) (m:List Nd) (y:Int) (hS:Sl w w.heap.size encN A m) (hv: ∀x∈m,1≤x.2) (hs:sumR m≤72057594037927935) :
 Calls Tryz.prog 58 #[bagV l A m.length cap,.int .i64 y] w fun e w'=>e=.returned (.int .i64 (betwB m 0 y))∧Below w.heap.size w w':=by
 have HC:=LH (fun W h=>ref10_Between W l A cap m 0 y h hv hs);have BA:Below w.heap.size w (w.alloc (.cells #[.int .i64 l,.slice A m.length cap] 35)):=bE;have S1:=LH (hS.keep (B':=(w.alloc (.cells #[.int .i64 l,.slice A m.length cap] 35)).heap.size) BA.size fun p hp=>BA.cell hp);clear hS hv hs BA;unfold bagV at HC⊢
 go_enter Tryz.func58,Tryz.ntmps58
 go_wp2_with fail;refine(HC.out _ S1.out).mono ?_;rintro e w1 ⟨rfl,hb1⟩;have B1:Below w.heap.size w w1:=Below.then_ bE hb1;have s1:=B1.size;have z1_0:w.heap.size<w1.heap.size:=by have:=hb1.size;(try simp at this);omega
 have y1_0:w.heap.size≤w1.heap.size:=Nat.le_of_lt z1_0;have c1_0:=czB hb1 (w.heap.size);have f1_0:=fzB hb1 (w.heap.size);go_wp2_with fail;go_ret;exact⟨rfl,bE⟩
def putL:List Nd→Int→Int→Bool→List Nd
 | [],x,c,d=>if d=true then [] else [(x,c)]
 |z :: m,x,c,d=>if z.1=x then (z.1,z.2+c) :: putL m x c true else if x<z.1∧d=false then (x,c) :: z :: putL m x c true else z :: putL m x c d
theorem putL_done {m:List Nd} {x:Int} (h: ∀z∈m,x<z.1) (c:Int) :putL m x c true=m:=by
 induction m with
 |nil=>rfl
 |cons z m ih=>
  have:=h z (by simp);simp only [putL];rw [if_neg (by omega: ¬z.1=x),if_neg (by simp: ¬(x<z.1∧true=false)),ih fun y hy=>h y (by simp [hy])]
theorem putL_addR {m:List Nd} (hup:m.Pairwise fun a b=>a.1<b.1) (x c:Int) :putL m x c false=addR m x c:=by
 induction m with
 |nil=>rfl
 |cons z m ih=>
  obtain⟨u1,u2⟩:=List.pairwise_cons.1 hup;simp only [putL,addR];by_cases h1:z.1=x
  ·rw [if_pos h1,if_pos h1,putL_done (fun y hy=>by have:=u1 y hy;omega)];rw [h1]
  ·rw [if_neg h1,if_neg h1]
   by_cases h2:x<z.1
   ·rw [if_pos (show x<z.1∧True from⟨h2,trivial⟩),if_pos h2,putL_done fun y hy=>by have:=u1 y hy;omega]
   ·rw [if_neg (by omega),if_neg h2,ih u2]
theorem putL_eq {z:Nd} {x c:Int} {d:Bool} {L m:List Nd} (h:z.1=x) :L ++ putL (z :: m) x c d= (L ++ [(z.1,z.2+c)]) ++ putL m x c true:=by simp [putL,h]
theorem putL_new {z:Nd} {x c:Int} {L m:List Nd} (h:x<z.1) :L ++ putL (z :: m) x c false= ((L ++ [(x,c)]) ++ [z]) ++ putL m x c true:=by
 simp only [putL];rw [if_neg (by omega: ¬z.1=x),if_pos (show x<z.1∧True from⟨h,trivial⟩)];simp
theorem putL_old {z:Nd} {x c:Int} {d:Bool} {L m:List Nd} (h1:z.1≠x) (h2: ¬(x<z.1∧d=false)) :L ++ putL (z :: m) x c d= (L ++ [z]) ++ putL m x c d:=by
 simp only [putL];rw [if_neg h1,if_neg h2];simp
theorem ref10_put (w:World) (l:Int) (A:Option Addr) (cap:Nat) (m:List Nd) (x c:Int) (hS:Sl w w.heap.size encN A m) (hup:m.Pairwise fun a b=>a.1<b.1) (hv: ∀x∈m,1≤x.2) (hc:1≤c) (hs:sumR m+c≤72057594037927935) (hlen:m.length≤65536) :
 Calls Tryz.prog 48 #[bagV l A m.length cap,.int .i64 x,.int .i64 c] w fun e w'=>∃A' cap',e=.returned (bagV l A' (addR m x c).length cap')∧SlT w' 165 encN A' (addR m x c)∧Below w.heap.size w w':=by
 have HS:=LH hS;have HV:=LH hv;have HA:=LH (putL_addR hup x c);have HN:=LH hs;clear hS hv hup;unfold bagV;have X0:Hid (((w.alloc (.cells #[.int .i64 l,.slice A m.length cap] 35)).alloc (.cells #[.int .i64 0,.slice none 0 0] 35)).heap[w.heap.size]? =some (.cells #[.int .i64 l,.slice A m.length cap] 35 (0,0))):=LH ((heap_new_lt _ _ _ (by simp)).trans (heap_alloc_new w _));have X1:Hid (((w.alloc (.cells #[.int .i64 l,.slice A m.length cap] 35)).alloc (.cells #[.int .i64 0,.slice none 0 0] 35)).heap[w.heap.size+1]? =some (.cells #[.int .i64 0,.slice none 0 0] 35 (0,0))):=LH (heap_new_at (w.alloc _) _ _ (by simp));have BW0:Hid (Below w.heap.size w ((w.alloc (.cells #[.int .i64 l,.slice A m.length cap] 35)).alloc (.cells #[.int .i64 0,.slice none 0 0] 35))):=LH bE;have Z0:Hid (((w.alloc (.cells #[.int .i64 l,.slice A m.length cap] 35)).alloc (.cells #[.int .i64 0,.slice none 0 0] 35)).heap.size=w.heap.size+1+1):=LH (by simp)
 go_enter Tryz.func48,Tryz.ntmps48
 go_upto_region 1 with fail;generalize (w.alloc (.cells #[.int .i64 l,.slice A m.length cap] 35)).alloc (.cells #[.int .i64 0,.slice none 0 0] 35) =W0 at X0 X1 BW0 Z0⊢;have S0:=LH (HS.out.keep (B':=W0.heap.size) BW0.out.size fun p hp=>BW0.out.cell hp);clear HS;go_wp2_with fail
 go_loopw [7,8,9] (fun o d j wr=>∃(q:Nat) (L:List Nd) (f:Bool),q≤m.length∧j=.int .i64 q∧d=.bool f∧Own wr W0.heap.size 165 encN o L∧L ++ putL (m.drop q) x c f=addR m x c∧L.length≤2*q∧Below W0.heap.size W0 wr) (fun _ _ j _=>m.length - (intOf j).toNat)
 case atStart=>exact⟨0, [],false,Nat.zero_le _,rfl,rfl,.nil _ _ _ _,HA.out,by simp,Below.refl _ _⟩
 case round=>
  obtain⟨q,L,f,hq,rfl,rfl,ho,hL,hLl,hB⟩:=hrel;obtain⟨Ao,co,rfl,_⟩:=ho.form;have hX:=bB X0.out hB;have c0:wr.cell? ⟨w.heap.size,1,none⟩ =some (.slice A m.length cap):=by rw [bC hX];rfl
  have c00:wr.cell? ⟨w.heap.size,0,none⟩ =some (.int .i64 l):=by rw [bC hX];rfl
  have z0:=lB hX;have HO:=LH ho;have HL:=LH hL;have SZ:=LH hB.size;clear hX ho hL;by_cases hlt:q<m.length
  ·have hE:=HL.out
   rw [List.drop_eq_getElem_cons hlt] at hE;obtain⟨b,off,rfl,hb,hc2⟩:=S0.out.at_ hlt;have d0:=(hB.cell (p:=⟨b,off+q*2+1,none⟩) hb).trans (hc2 1 (.int .i64 m[q].2) rfl);have d1:=(hB.cell (p:=⟨b,off+q*2,none⟩) hb).trans (by have:=hc2 0 (.int .i64 m[q].1) rfl;simpa using this);have lb:b<wr.heap.size:=Nat.lt_of_lt_of_le hb hB.size;have v1:=HV.out _ (List.getElem_mem hlt);have s1:m[q].2+c≤72057594037927935:=by have:=sum_part HV.out hlt;have:=HN.out;omega
   obtain⟨y,hy⟩ : ∃y:Nd,y=m[q]:=⟨_,rfl⟩;rw [←hy] at d0 d1 v1 s1 hE;obtain⟨u,v⟩:=y;simp only at d0 d1 v1 s1;clear hc2 hy;by_cases k1:u=x
   ·subst k1
    rw [putL_eq rfl] at hE;have HE:=LH hE;clear hE;have sz:=SZ.out;have OA:=LH (HO.out.alloc (.cells #[.int .i64 u,.int .i64 (v+c)] 165));have BM:=LH (show Below W0.heap.size W0 (wr.alloc (.cells #[.int .i64 u,.int .i64 (v+c)] 165)) from bE);have wfu: (decide (u≤u)) =true:=by simp
    go_wp2_with ((at_builtin;refine wpList_push tyRd rfl _ _ rfl encN (wr.alloc (.cells #[.int .i64 u,.int .i64 (v+c)] 165)) W0.heap.size (.slice Ao L.length co) L rfl OA.out (u,v+c) (by go_simp) rfl ?c1 ?c2 ?c3 ?c4))
    case c1=>(try simp only [List.length_append,List.length_cons,List.length_nil]);omega
    case c2=>(try simp only [maxLen,List.length_append,List.length_cons,List.length_nil]);omega
    case c3=>(try simp [World.setCell]);omega
    case c4=>
     intro v5 w5 ho5 _ _ _ hb5 _;have H5:=LH (And.intro ho5 hb5);clear ho5 hb5;go_wp2_with fail;go_roundw
     case rel=>exact⟨q+1,L ++ [(u,v+c)],true,by omega,by go_num,rfl,H5.out.1,HE.out,by simp;omega,BM.out.trans H5.out.2⟩
     case measure=>simp [intOf];omega
   ·have k1': (u == x) =false:=by simpa using k1
    have sz:=SZ.out;have OA:=LH (HO.out.alloc (.cells #[.int .i64 u,.int .i64 v] 165));have BM:=LH (show Below W0.heap.size W0 (wr.alloc (.cells #[.int .i64 u,.int .i64 v] 165)) from bE);by_cases k2:x<u
    ·cases f
     ·rw [putL_new k2] at hE
      have HE:=LH hE;clear hE;go_wp2_with ((at_builtin;refine wpList_push tyRd rfl _ _ rfl encN (wr.alloc (.cells #[.int .i64 u,.int .i64 v] 165)) W0.heap.size (.slice Ao L.length co) L rfl OA.out (x,c) (by go_simp) rfl ?c1 ?c2 ?c3 ?c4))
      case c1=>(try simp only [List.length_append,List.length_cons,List.length_nil]);omega
      case c2=>(try simp only [maxLen,List.length_append,List.length_cons,List.length_nil]);omega
      case c3=>(try simp [World.setCell]);omega
      case c4=>
       intro v5 w5 ho5 hg5 hs5 _ hb5 _;obtain⟨A5,c5,rfl,_⟩:=ho5.form;have hy5:=blk_grown_not (heap_alloc_new wr (.cells #[.int .i64 u,.int .i64 v] 165)) hg5 (HO.out.not_at _ (Nat.le_refl _));have cy5:=bC hy5;have zy5:=lB hy5;have O5:=LH ho5;have B5:=LH (BM.out.trans hb5);have s5:=B5.out.size;clear ho5 hg5 hb5;go_wp2_with ((at_builtin;refine wpList_push tyRd rfl _ _ rfl encN w5 W0.heap.size (.slice A5 (L ++ [(x,c)]).length c5) (L ++ [(x,c)]) rfl O5.out (u,v) (by go_simp) rfl ?c1 ?c2 ?c3 ?c4))
       case c1=>(try simp only [List.length_append,List.length_cons,List.length_nil]);omega
       case c2=>(try simp only [maxLen,List.length_append,List.length_cons,List.length_nil]);omega
       case c3=>(try simp [World.setCell]);omega
       case c4=>
        intro v6 w6 ho6 _ _ _ hb6 _;have H6:=LH (And.intro ho6 hb6);clear ho6 hb6;go_wp2_with fail;go_roundw
        case rel=>exact⟨q+1,L ++ [(x,c),(u,v)],true,by omega,by go_num,rfl,H6.out.1,by have:=HE.out;simpa using this,by simp;omega,B5.out.trans H6.out.2⟩
        case measure=>simp [intOf];omega
     ·rw [putL_old k1 (by simp)] at hE
      have HE:=LH hE;clear hE;go_wp2_with ((at_builtin;refine wpList_push tyRd rfl _ _ rfl encN (wr.alloc (.cells #[.int .i64 u,.int .i64 v] 165)) W0.heap.size (.slice Ao L.length co) L rfl OA.out (u,v) (by go_simp) rfl ?c1 ?c2 ?c3 ?c4))
      case c1=>(try simp only [List.length_append,List.length_cons,List.length_nil]);omega
      case c2=>(try simp only [maxLen,List.length_append,List.length_cons,List.length_nil]);omega
      case c3=>(try simp [World.setCell]);omega
      case c4=>
       intro v5 w5 ho5 _ _ _ hb5 _;have H5:=LH (And.intro ho5 hb5);clear ho5 hb5;go_wp2_with fail;go_roundw
       case rel=>exact⟨q+1,L ++ [(u,v)],true,by omega,by go_num,rfl,H5.out.1,HE.out,by simp;omega,BM.out.trans H5.out.2⟩
       case measure=>simp [intOf];omega
    ·rw [putL_old k1 (by omega)] at hE
     have k2':decide (x<u) =false:=by simpa using k2
     have HE:=LH hE;clear hE;go_wp2_with ((at_builtin;refine wpList_push tyRd rfl _ _ rfl encN (wr.alloc (.cells #[.int .i64 u,.int .i64 v] 165)) W0.heap.size (.slice Ao L.length co) L rfl OA.out (u,v) (by go_simp) rfl ?c1 ?c2 ?c3 ?c4))
     case c1=>(try simp only [List.length_append,List.length_cons,List.length_nil]);omega
     case c2=>(try simp only [maxLen,List.length_append,List.length_cons,List.length_nil]);omega
     case c3=>(try simp [World.setCell]);omega
     case c4=>
      intro v5 w5 ho5 _ _ _ hb5 _;have H5:=LH (And.intro ho5 hb5);clear ho5 hb5;go_wp2_with fail;go_roundw
      case rel=>exact⟨q+1,L ++ [(u,v)],f,by omega,by go_num,rfl,H5.out.1,HE.out,by simp;omega,BM.out.trans H5.out.2⟩
      case measure=>simp [intOf];omega
  ·obtain rfl:q=m.length:=by omega
   have hE:=HL.out;rw [List.drop_length] at hE;have sz:=SZ.out;have hX1:=bB X1.out hB;have c3:=bC hX1;have f3:=bF hX1;have z3:=lB hX1;have X1c:=LH hX1;have XC:=LH (bB X0.out hB);have HB:=LH (BW0.out.trans (hB.mono BW0.out.size))
   cases f
   ·simp only [putL,Bool.false_eq_true,if_false] at hE
    have HE:=LH hE;clear hE hX1;go_wp2_with ((at_builtin;refine wpList_push tyRd rfl _ _ rfl encN wr W0.heap.size (.slice Ao L.length co) L rfl HO.out (x,c) (by go_simp) rfl ?c1 ?c2 ?c3 ?c4))
    case c1=>(try simp only [List.length_append,List.length_cons,List.length_nil]);omega
    case c2=>(try simp only [maxLen,List.length_append,List.length_cons,List.length_nil]);omega
    case c3=>(try simp [World.setCell]);omega
    case c4=>
     intro v5 w5 ho5 hg5 hs5 _ hb5 _;obtain⟨A5,cc5,rfl,_⟩:=ho5.form;rw [HE.out] at ho5⊢;have O5:=LH ho5;have hX5:w5.heap[w.heap.size+1]? =_:=(hb5.block _ (by have:=Z0.out;omega)).trans X1c.out;have hX0:w5.heap[w.heap.size]? =_:=(hb5.block _ (by have:=Z0.out;omega)).trans XC.out;have c5:=bC hX5;have f5:=bF hX5;have z5:=lB hX5;have c50:w5.cell? ⟨w.heap.size,0,none⟩ =some (.int .i64 l):=by rw [bC hX0];rfl
     have B5:=LH (HB.out.trans (hb5.mono (by have:=Z0.out;omega)));clear c0 c00 c3 f3 z3 z0 ho5 hg5 hs5 hb5 hX5 hX0;go_wp2_with fail;exact bR (v:=.agg #[.int .i64 l,.slice A5 (addR m x c).length cc5]) (by simp only [results,Tryz.results48];go_simp) rfl ⟨_,_,rfl,(((O5.out.setCellB (p:=⟨w.heap.size+1,0,none⟩) (by have:=Z0.out;simp only;omega)).setCellB (p:=⟨w.heap.size+1,1,none⟩) (by have:=Z0.out;simp only;omega)).slT),Below.setCell (p:=⟨w.heap.size+1,1,none⟩) (Below.setCell (p:=⟨w.heap.size+1,0,none⟩) B5.out (by simp) _) (by simp) _⟩
   ·simp only [putL,if_true,List.append_nil] at hE
    subst hE;go_wp2_with fail;exact bR (v:=.agg #[.int .i64 l,.slice Ao (addR m x c).length co]) (by simp only [results,Tryz.results48];go_simp) rfl ⟨_,_,rfl,(((HO.out.setCellB (p:=⟨w.heap.size+1,0,none⟩) (by have:=Z0.out;simp only;omega)).setCellB (p:=⟨w.heap.size+1,1,none⟩) (by have:=Z0.out;simp only;omega)).slT),Below.setCell (p:=⟨w.heap.size+1,1,none⟩) (Below.setCell (p:=⟨w.heap.size+1,0,none⟩) HB.out (by simp) _) (by simp) _⟩
theorem ref10_Add (w:World) (l:Nat) (A:Option Addr) (cap:Nat) (m:List Nd) (x c:Int) (hl:1≤l∧l≤48) (hS:SlT w 165 encN A m) (hm:BagL l m) (hlen:m.length≤65536) (hc2:c≤9223372036854775807) :
 Calls Tryz.prog 14 #[bagV l A m.length cap,.int .i64 x,.int .i64 c] w fun e w'=>∃A' cap',e=.returned (.tuple #[bagV l A' (addB l m x c).1.length cap',.int .i64 (addB l m x c).2])∧SlT w' 165 encN A' (addB l m x c).1∧Below w.heap.size w w':=by
 have HS:=LH hS;have HP:=LH (fun W=>ref2_Power W l (by omega));have hval: ∀x∈m,1≤x.2:=fun y hy=>(hm.val y hy).2.2;have HT:=LH (fun W h=>ref10_Total W l A cap m h hval hm.sum);have hsum:=hm.sum;have hsum0:=hm.sum0;have HU:=LH hm.up;have HVAL:=LH hval;unfold bagV at HT⊢;clear hS hval hm;have X0:Hid (((w.alloc (.cells #[.int .i64 l,.slice A m.length cap] 35)).alloc (.cells #[.int .i64 0,.slice none 0 0] 35)).heap[w.heap.size]? =some (.cells #[.int .i64 l,.slice A m.length cap] 35 (0,0))):=LH ((heap_new_lt _ _ _ (by simp)).trans (heap_alloc_new w _));have X1:Hid (((w.alloc (.cells #[.int .i64 l,.slice A m.length cap] 35)).alloc (.cells #[.int .i64 0,.slice none 0 0] 35)).heap[w.heap.size+1]? =some (.cells #[.int .i64 0,.slice none 0 0] 35 (0,0))):=LH (heap_new_at (w.alloc _) _ _ (by simp));have BW0:Hid (Below w.heap.size w ((w.alloc (.cells #[.int .i64 l,.slice A m.length cap] 35)).alloc (.cells #[.int .i64 0,.slice none 0 0] 35))):=LH bE;have Z0:Hid (((w.alloc (.cells #[.int .i64 l,.slice A m.length cap] 35)).alloc (.cells #[.int .i64 0,.slice none 0 0] 35)).heap.size=w.heap.size+1+1):=LH (by simp);obtain⟨p,hp⟩ : ∃p:Int,p=2^l:=⟨_,rfl⟩;have hv:isVal l x= (decide (0≤x) && decide (x<p)):=by unfold isVal;rw [hp]
 rw [←hp] at HP;have KS:Hid (∀W',Below w.heap.size w W'→SlT W' 165 encN A m):=LH fun W' hb=>HS.out.below hb
 have cd:c<1∨decide (c<1) =false:=by
  by_cases h:c<1
  ·exact .inl h
  ·exact .inr (decide_eq_false h)
 by_cases h1:x<0
 ·have e1:addB l m x c= (m,3):=by unfold addB;rw [if_pos (by rw [hv];simp;omega)]
  rw [e1];clear e1 hv hp
  go_enter Tryz.func14,Tryz.ntmps14
  go_wp2_with fail;exact bR (v:=.tuple #[.agg #[.int .i64 l,.slice A m.length cap],.int .i64 3]) (by simp only [results,Tryz.results14];go_simp) rfl ⟨A,cap,rfl,KS.out _ bE,bE⟩
 ·have h1':decide (x<0) =false:=by simpa using h1
  by_cases h2:p≤x
  ·have e1:addB l m x c= (m,3):=by unfold addB;rw [if_pos (by rw [hv];simp;omega)]
   rw [e1];clear e1 hv hp
   go_enter Tryz.func14,Tryz.ntmps14
   go_upto_region 1 with fail;generalize (w.alloc (.cells #[.int .i64 l,.slice A m.length cap] 35)).alloc (.cells #[.int .i64 0,.slice none 0 0] 35) =W0 at X0 X1 BW0 Z0⊢;have c0:=bC X0.out;have z0:=lB X0.out;go_wp2_with fail;refine(HP.out _).mono ?_;rintro e w1 ⟨rfl,hb1⟩;have Y0:=bB X0.out hb1;have Y1:=bB X1.out hb1;have B1:=LH (BW0.out.trans (hb1.mono BW0.out.size));have hz1:w.heap.size+1+1≤w1.heap.size:=by have:=hb1.size;have:=Z0.out;omega
   clear c0 z0 X0 X1 hb1;have c1:w1.cell? ⟨w.heap.size,0,none⟩ =some (.int .i64 l):=by rw [bC Y0];rfl
   have c2:w1.cell? ⟨w.heap.size,1,none⟩ =some (.slice A m.length cap):=by rw [bC Y0];rfl
   have z1:=lB Y0;have d1:=bC Y1;have f1:=bF Y1;have z2:=lB Y1;go_wp2_with fail;exact bR (v:=.tuple #[.agg #[.int .i64 l,.slice A m.length cap],.int .i64 3]) (by simp only [results,Tryz.results14];go_simp) rfl ⟨A,cap,rfl,KS.out _ (Below.setCell (p:=⟨w.heap.size+1,1,none⟩) (Below.setCell (p:=⟨w.heap.size+1,0,none⟩) B1.out (by simp) _) (by simp) _),(Below.setCell (p:=⟨w.heap.size+1,1,none⟩) (Below.setCell (p:=⟨w.heap.size+1,0,none⟩) B1.out (by simp) _) (by simp) _)⟩
  ·have h2':decide (p≤x) =false:=by simpa using h2
   have hv1:isVal l x=true:=by rw [hv];simp;omega
   have HV1:=LH (show ¬(isVal l x=false) by simp [hv1]);clear hv hp hv1;rcases cd with h3|h3
   ·have e1:addB l m x c= (m,4):=by unfold addB;rw [if_neg HV1.out,if_pos h3]
    rw [e1];clear e1
    go_enter Tryz.func14,Tryz.ntmps14
    go_upto_region 1 with fail;generalize (w.alloc (.cells #[.int .i64 l,.slice A m.length cap] 35)).alloc (.cells #[.int .i64 0,.slice none 0 0] 35) =W0 at X0 X1 BW0 Z0⊢;have c0:=bC X0.out;have z0:=lB X0.out;go_wp2_with fail;refine(HP.out _).mono ?_;rintro e w1 ⟨rfl,hb1⟩;have Y0:=bB X0.out hb1;have Y1:=bB X1.out hb1;have B1:=LH (BW0.out.trans (hb1.mono BW0.out.size));have hz1:w.heap.size+1+1≤w1.heap.size:=by have:=hb1.size;have:=Z0.out;omega
    clear c0 z0 X0 X1 hb1;have c1:w1.cell? ⟨w.heap.size,0,none⟩ =some (.int .i64 l):=by rw [bC Y0];rfl
    have c2:w1.cell? ⟨w.heap.size,1,none⟩ =some (.slice A m.length cap):=by rw [bC Y0];rfl
    have z1:=lB Y0;have d1:=bC Y1;have f1:=bF Y1;have z2:=lB Y1;go_wp2_with fail;exact bR (v:=.tuple #[.agg #[.int .i64 l,.slice A m.length cap],.int .i64 4]) (by simp only [results,Tryz.results14];go_simp) rfl ⟨A,cap,rfl,KS.out _ (Below.setCell (p:=⟨w.heap.size+1,1,none⟩) (Below.setCell (p:=⟨w.heap.size+1,0,none⟩) B1.out (by simp) _) (by simp) _),(Below.setCell (p:=⟨w.heap.size+1,1,none⟩) (Below.setCell (p:=⟨w.heap.size+1,0,none⟩) B1.out (by simp) _) (by simp) _)⟩
   ·have h3': ¬c<1:=by simpa using h3
    by_cases h4:72057594037927935<sumR m+c
    ·have e1:addB l m x c= (m,5):=by unfold addB;rw [if_neg HV1.out,if_neg h3',if_pos h4]
     rw [e1];clear e1;obtain⟨n,hn⟩ : ∃n,n=sumR m:=⟨_,rfl⟩;rw [←hn] at HT hsum hsum0 h4;have h4':72057594037927935 - n<c:=by omega
     clear hn h4
     go_enter Tryz.func14,Tryz.ntmps14
     go_upto_region 1 with fail;generalize (w.alloc (.cells #[.int .i64 l,.slice A m.length cap] 35)).alloc (.cells #[.int .i64 0,.slice none 0 0] 35) =W0 at X0 X1 BW0 Z0⊢;have c0:=bC X0.out;have z0:=lB X0.out;go_wp2_with fail;refine(HP.out _).mono ?_;rintro e w1 ⟨rfl,hb1⟩;have Y0:=bB X0.out hb1;have Y1:=bB X1.out hb1;have B1:=LH (BW0.out.trans (hb1.mono BW0.out.size));have hz1:w.heap.size+1+1≤w1.heap.size:=by have:=hb1.size;have:=Z0.out;omega
     clear c0 z0 X0 X1 hb1;have c1:w1.cell? ⟨w.heap.size,0,none⟩ =some (.int .i64 l):=by rw [bC Y0];rfl
     have c2:w1.cell? ⟨w.heap.size,1,none⟩ =some (.slice A m.length cap):=by rw [bC Y0];rfl
     have z1:=lB Y0;have d1:=bC Y1;have f1:=bF Y1;have z2:=lB Y1;go_wp2_with fail;refine(HT.out _ (KS.out _ B1.out).sl).mono ?_;rintro e w2 ⟨rfl,hb2⟩;have Y0':=bB Y0 hb2;have Y1':=bB Y1 hb2;have B2:=LH (B1.out.trans (hb2.mono B1.out.size));have hz2:w.heap.size+1+1≤w2.heap.size:=by have:=hb2.size;omega
     clear c1 c2 z1 d1 f1 z2 Y0 Y1;have c1:w2.cell? ⟨w.heap.size,0,none⟩ =some (.int .i64 l):=by rw [bC Y0'];rfl
     have c2:w2.cell? ⟨w.heap.size,1,none⟩ =some (.slice A m.length cap):=by rw [bC Y0'];rfl
     have z1:=lB Y0';have d1:=bC Y1';have f1:=bF Y1';have z2:=lB Y1';go_wp2_with fail;exact bR (v:=.tuple #[.agg #[.int .i64 l,.slice A m.length cap],.int .i64 5]) (by simp only [results,Tryz.results14];go_simp) rfl ⟨A,cap,rfl,KS.out _ (Below.setCell (p:=⟨w.heap.size+1,1,none⟩) (Below.setCell (p:=⟨w.heap.size+1,0,none⟩) B2.out (by simp) _) (by simp) _),(Below.setCell (p:=⟨w.heap.size+1,1,none⟩) (Below.setCell (p:=⟨w.heap.size+1,0,none⟩) B2.out (by simp) _) (by simp) _)⟩
    ·have e1:addB l m x c= (addR m x c,0):=by unfold addB;rw [if_neg HV1.out,if_neg h3',if_neg h4]
     rw [e1];clear e1;have HPut:=LH (fun W h=>ref10_put W l A cap m x c h HU.out HVAL.out (by omega) (by omega) hlen);unfold bagV at HPut;obtain⟨n,hn⟩ : ∃n,n=sumR m:=⟨_,rfl⟩;rw [←hn] at HT hsum hsum0 h4;have h4':decide (72057594037927935 - n<c) =false:=by simp;omega
     clear hn h4
     go_enter Tryz.func14,Tryz.ntmps14
     go_upto_region 1 with fail;generalize (w.alloc (.cells #[.int .i64 l,.slice A m.length cap] 35)).alloc (.cells #[.int .i64 0,.slice none 0 0] 35) =W0 at X0 X1 BW0 Z0⊢;have c0:=bC X0.out;have z0:=lB X0.out;go_wp2_with fail;refine(HP.out _).mono ?_;rintro e w1 ⟨rfl,hb1⟩;have Y0:=bB X0.out hb1;have Y1:=bB X1.out hb1;have B1:=LH (BW0.out.trans (hb1.mono BW0.out.size));have hz1:w.heap.size+1+1≤w1.heap.size:=by have:=hb1.size;have:=Z0.out;omega
     clear c0 z0 X0 X1 hb1;have c1:w1.cell? ⟨w.heap.size,0,none⟩ =some (.int .i64 l):=by rw [bC Y0];rfl
     have c2:w1.cell? ⟨w.heap.size,1,none⟩ =some (.slice A m.length cap):=by rw [bC Y0];rfl
     have z1:=lB Y0;have d1:=bC Y1;have f1:=bF Y1;have z2:=lB Y1;go_wp2_with fail;refine(HT.out _ (KS.out _ B1.out).sl).mono ?_;rintro e w2 ⟨rfl,hb2⟩;have Y0':=bB Y0 hb2;have Y1':=bB Y1 hb2;have B2:=LH (B1.out.trans (hb2.mono B1.out.size));have hz2:w.heap.size+1+1≤w2.heap.size:=by have:=hb2.size;omega
     clear c1 c2 z1 d1 f1 z2 Y0 Y1;have c1:w2.cell? ⟨w.heap.size,0,none⟩ =some (.int .i64 l):=by rw [bC Y0'];rfl
     have c2:w2.cell? ⟨w.heap.size,1,none⟩ =some (.slice A m.length cap):=by rw [bC Y0'];rfl
     have z1:=lB Y0';have d1:=bC Y1';have f1:=bF Y1';have z2:=lB Y1';go_wp2_with fail;refine(HPut.out _ (KS.out _ B2.out).sl).mono ?_;rintro e w3 ⟨A3,cap3,rfl,hS3,hb3⟩;have B3:=LH (B2.out.trans (hb3.mono B2.out.size));have Y3:=bB Y1' hb3;have hz3:w.heap.size+1+1≤w3.heap.size:=by have:=hb3.size;omega
     have d3:=bC Y3;have f3:=bF Y3;have z3:=lB Y3;have S3:=LH hS3;clear c1 c2 z1 d1 f1 z2 Y0' Y1' hS3 hb3;go_wp2_with fail;have T3:TypeAt w3 (w.heap.size+1) 35:=TypeAt.of Y3;exact bR (v:=.tuple #[.agg #[.int .i64 l,.slice A3 (addR m x c).length cap3],.int .i64 0]) (by simp only [results,Tryz.results14];go_simp) rfl ⟨A3,cap3,rfl,(S3.out.setCellT (p:=⟨w.heap.size+1,0,none⟩) (u:=.int .i64 l) T3 (by decide)).setCellT (p:=⟨w.heap.size+1,1,none⟩) T3.setCell (by decide),Below.setCell (p:=⟨w.heap.size+1,1,none⟩) (Below.setCell (p:=⟨w.heap.size+1,0,none⟩) B3.out (by simp) _) (by simp) _⟩
def madeB (l:Nat) (r:List Nd) :List Nd:=r.foldl (fun m z=>(addB l m z.1 z.2).1) []
end Go.Proofs.YtmdidmclfbfmiaaGreatDoor
