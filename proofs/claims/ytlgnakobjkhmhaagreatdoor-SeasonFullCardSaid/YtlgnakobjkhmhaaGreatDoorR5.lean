/-
  Texts of this proof, one behind the other: Agenda, AgPut, AgPop, AgNew, MemIn, Parents, First, SortK, TabLaw, Made, Made2, Reach2, Table, Bag, BagPut, BagAdd, BagMake, Ref10, Ref10Put.
-/
import Derived.Maps.OwnSet
import Derived.Carry
import Derived.BigRegion
import Derived.BigQuiet
import Derived.Deep.DeepCutAuto
import Derived.OwnWalkIn
import Derived.Shelf.SlSortCmp.NoneTotal
import Derived.Test.YtlgnakobjkhmhaaGreatDoorLaid
import Derived.Deep.RegionHeld3
import Derived.Deep.RegionLaw
import Derived.Deep.RegionWith
import Derived.Shelf.SlSorted.Search
import Derived.Shelf.Spec.SlicesInsert
import Derived.Test.YtlgnakobjkhmhaaGreatDoorR1
import Derived.Test.YtlgnakobjkhmhaaGreatDoorR2
import Derived.Test.YtlgnakobjkhmhaaGreatDoorR3
import Derived.Test.YtlgnakobjkhmhaaGreatDoorR4
set_option linter.unusedVariables false
set_option linter.unusedSimpArgs false
set_option maxRecDepth 100000
set_option maxHeartbeats 16000000
namespace Go.Proofs.YtlgnakobjkhmhaaGreatDoor
open Go.ChangeShapes Go.WideShapes Go.ChangeAt Go.RowKit
section
open Go.ChangeShapes Go.WideShapes Go.ChangeAt Go.RowKit Go.Maps
theorem keyI':Keyed Tryz.prog 3:=int_keyed Tryz.underlying3
theorem zeroU (w:World) : (zeroValue 348).run Tryz.prog w=.ok (.agg #[]) w:=by kernel_rfl
def footA (a:Nat) (v:Value) (b:Nat) :Nat→Prop:=fun x=>x=a∨v.ownBlock=some x∨x=b
def AgS (w:World) (a b:Nat) (M:List Int) (n:Nat) (D:DataW Unit) (F:Nat→Prop) :Prop:=
 ∃v:Value,w.heap[a]? =some (.cells #[v,.map (some b)] 346 (0,0))∧Own w 0 3 encZ v M∧w.ownsMap Tryz.prog 3 (unitElem (H:=Unit)) b n D∧F=footA a v b
structure SetIs (D:DataW Unit) (L:List Int) :Prop where
 has: ∀z,Go.Maps.has D (.int .i64 z) =true↔z∈L
 size:Go.Maps.size D=L.length
def AgAt (w:World) (a b:Nat) (L:List Int) (F:Nat→Prop) :Prop:=∃D,AgS w a b L L.length D F∧SetIs D L
theorem ownsMap_keep {w w':World} {b n:Nat} {D:DataW Unit} {R:Value→Option (DataW Unit×List MemPlace)} (h:w.ownsMap Tryz.prog 3 R b n D) (hb:w'.heap[b]? =w.heap[b]?) :w'.ownsMap Tryz.prog 3 R b n D:=by
 obtain⟨es,clock,h1,h2⟩:=h;exact⟨es,clock,hb.trans h1,h2⟩
theorem AgS.keep {w w':World} {a b n:Nat} {M:List Int} {D:DataW Unit} {F:Nat→Prop} (h:AgS w a b M n D F) (hk: ∀b,F b→w'.heap[b]? =w.heap[b]?) :AgS w' a b M n D F:=by
 obtain⟨v,h1,h2,h3,rfl⟩:=h;exact⟨v,(hk a (.inl rfl)).trans h1,h2.of_block fun x hx=>hk x (.inr (.inl hx)),ownsMap_keep h3 (hk b (.inr (.inr rfl))),rfl⟩
theorem AgS.lt {w:World} {a b n:Nat} {M:List Int} {D:DataW Unit} {F:Nat→Prop} (h:AgS w a b M n D F) : ∀b,F b→b<w.heap.size:=by
 obtain⟨v,h1,h2,h3,rfl⟩:=h;rintro x (rfl|hx|rfl)
 ·exact lB h1
 ·exact(h2.lt x hx).2
 ·exact h3.lt
theorem AgS.below {w w':World} {a b n:Nat} {M:List Int} {D:DataW Unit} {F:Nat→Prop} (h:AgS w a b M n D F) (hb:Below w.heap.size w w') :AgS w' a b M n D F:=h.keep fun b hf=>hb.block b (h.lt b hf)
theorem AgAt.keep {w w':World} {a b:Nat} {L:List Int} {F:Nat→Prop} (h:AgAt w a b L F) (hk: ∀b,F b→w'.heap[b]? =w.heap[b]?) :AgAt w' a b L F:=by
 obtain⟨D,h1,h2⟩:=h;exact⟨D,h1.keep hk,h2⟩
theorem AgAt.lt {w:World} {a b:Nat} {L:List Int} {F:Nat→Prop} (h:AgAt w a b L F) : ∀b,F b→b<w.heap.size:=by
 obtain⟨D,h1,h2⟩:=h;exact h1.lt
theorem AgAt.below {w w':World} {a b:Nat} {L:List Int} {F:Nat→Prop} (h:AgAt w a b L F) (hb:Below w.heap.size w w') :AgAt w' a b L F:=h.keep fun b hf=>hb.block b (h.lt b hf)
theorem AgS.apart {w:World} {a b n:Nat} {M:List Int} {D:DataW Unit} {v:Value} (h1:w.heap[a]? =some (.cells #[v,.map (some b)] 346 (0,0))) (h2:Own w 0 3 encZ v M) (h3:w.ownsMap Tryz.prog 3 (unitElem (H:=Unit)) b n D) :
 v.ownBlock≠some a∧v.ownBlock≠some b∧a≠b:=by
 obtain⟨es,clock,hb,_⟩:=h3;refine⟨h2.ne_block h1 (by decide),fun he=> ?_,fun he=> ?_⟩
 ·rcases h2 with ⟨rfl,_⟩ | ⟨g,off,cap,cur,rfl,_,hg,_⟩
  ·cases he
  ·cases he
   rw [hg] at hb
   cases hb
 ·subst he
  rw [h1] at hb
  cases hb
theorem ag_Len (w:World) (a b n:Nat) (M:List Int) (D:DataW Unit) (F:Nat→Prop) (h:AgS w a b M n D F) :Calls Tryz.prog 255 #[.pointer (some ⟨a,0,none⟩)] w fun e w'=>e=.returned (.int .i64 M.length)∧Below w.heap.size w w':=by
 obtain⟨v,h1,h2,_,rfl⟩:=h;obtain⟨A,cap,rfl,_⟩:=h2.form;have c:=bC h1;have z:=lB h1;clear h1 h2
 go_enter Tryz.func255,Tryz.ntmps255
 go_wp2_with fail;go_ret;exact⟨rfl,bE⟩
theorem fold_ahead (w:World) (x y:Int) (hx:x≤9223372036854775807) (hy:y≤9223372036854775807) (hx1:1≤x) (hy1:1≤y) :Calls Tryz.prog 301 #[.int .i64 x,.int .i64 y] w fun e w'=>e=.returned (.bool (aheadI x y))∧Below w.heap.size w w':=by
 have HX:=LH (fun W=>twig_Depth W x hx);have HY:=LH (fun W=>twig_Depth W y hy);rw [if_pos hx1] at HX;rw [if_pos hy1] at HY;unfold aheadI;generalize x.toNat.log2=n at HX⊢;generalize y.toNat.log2=m at HY⊢;clear hx hy hx1 hy1;by_cases he:n=m
 ·subst he
  rw [if_neg (by simp)];by_cases hlt:x<y
  ·rw [decide_eq_true hlt]
   go_enter Tryz.func301,Tryz.ntmps301
   go_wp2_with fail;refine(HX.out _).mono ?_;rintro e w1 ⟨rfl,hb1⟩;have B1:Below w.heap.size w w1:=Below.then_ bE hb1;have s1:=B1.size;go_wp2_with fail;refine(HY.out _).mono ?_;rintro e w2 ⟨rfl,hb2⟩;have B2:Below w.heap.size w w2:=Below.then_ bE hb2;have s2:=B2.size;go_wp2_with fail;go_ret;exact⟨rfl,bE⟩
  ·have hlt':decide (x<y) =false:=by simpa using hlt
   rw [hlt'];clear hlt
   go_enter Tryz.func301,Tryz.ntmps301
   go_wp2_with fail;refine(HX.out _).mono ?_;rintro e w1 ⟨rfl,hb1⟩;have B1:Below w.heap.size w w1:=Below.then_ bE hb1;have s1:=B1.size;go_wp2_with fail;refine(HY.out _).mono ?_;rintro e w2 ⟨rfl,hb2⟩;have B2:Below w.heap.size w w2:=Below.then_ bE hb2;have s2:=B2.size;go_wp2_with fail;go_ret;exact⟨rfl,bE⟩
 ·rw [if_pos he]
  have he': ((n:Int) == (m:Int)) =false:=by simp;omega
  have he2: (n == m) =false:=by simpa using he
  by_cases hlt:m<n
  ·rw [decide_eq_true hlt]
   have hlt2: (m:Int) < (n:Int):=by omega
   clear he
   go_enter Tryz.func301,Tryz.ntmps301
   go_wp2_with fail;refine(HX.out _).mono ?_;rintro e w1 ⟨rfl,hb1⟩;have B1:Below w.heap.size w w1:=Below.then_ bE hb1;have s1:=B1.size;go_wp2_with fail;refine(HY.out _).mono ?_;rintro e w2 ⟨rfl,hb2⟩;have B2:Below w.heap.size w w2:=Below.then_ bE hb2;have s2:=B2.size;go_wp2_with fail;go_ret;exact⟨rfl,bE⟩
  ·have hlt':decide (m<n) =false:=by simpa using hlt
   have hlt2:decide ((m:Int) < (n:Int)) =false:=by simp;omega
   rw [hlt'];clear hlt he
   go_enter Tryz.func301,Tryz.ntmps301
   go_wp2_with fail;refine(HX.out _).mono ?_;rintro e w1 ⟨rfl,hb1⟩;have B1:Below w.heap.size w w1:=Below.then_ bE hb1;have s1:=B1.size;go_wp2_with fail;refine(HY.out _).mono ?_;rintro e w2 ⟨rfl,hb2⟩;have B2:Below w.heap.size w w2:=Below.then_ bE hb2;have s2:=B2.size;go_wp2_with fail;go_ret;exact⟨rfl,bE⟩
theorem own_setZ {w:World} {base b off n cap:Nat} {l:List Int} (h:Own w base 3 encZ (.slice (some ⟨b,off,none⟩) n cap) l) (k:Nat) (hk:k<l.length) (x:Int) :Own (w.setCell ⟨b,off+k,none⟩ (.int .i64 x)) base 3 encZ (.slice (some ⟨b,off,none⟩) n cap) (l.set k x):=by
 have:=h.setElem k 0 hk (by decide) (.int .i64 x) x rfl
 rwa [Nat.mul_one,Nat.add_zero] at this
theorem ag_swap (w:World) (a b n:Nat) (M:List Int) (D:DataW Unit) (F:Nat→Prop) (h:AgS w a b M n D F) (i j:Nat) (hi:i<M.length) (hj:j<M.length) (hij:i≠j) (hm:M.length≤72057594037927935) :
 Calls Tryz.prog 302 #[.pointer (some ⟨a,0,none⟩),.int .i64 i,.int .i64 j] w fun e w'=>e=.returned (.tuple #[])∧AgS w' a b (swapL M i j) n D F∧Turn F w w':=by
 obtain⟨v,h1,h2,h3,rfl⟩:=h;have hap:=AgS.apart h1 h2 h3;obtain⟨g,off,cap,rfl,hcap⟩:=own_at0 h2 (by omega);have c:=bC h1;have z:=lB h1;have zb:=(h2.lt g rfl).2;have fb:=h2.frozen;have d0:=h2.slT.cell_at hi 0 (.int .i64 M[i]) rfl;have d1:=h2.slT.cell_at hj 0 (.int .i64 M[j]) rfl;simp only [Nat.mul_one,Nat.add_zero] at d0 d1;have i0: (i:Int) < (M.length:Int):=by omega
 have j0: (j:Int) < (M.length:Int):=by omega
 have hij1: ¬i=j:=hij;have hij2: ¬j=i:=fun he=>hij he.symm;have ei:M.getD i 0=M[i]:=by simp [hi]
 have ej:M.getD j 0=M[j]:=by simp [hj]
 have HS:Hid (AgS ((w.setCell ⟨g,off+i,none⟩ (.int .i64 M[j])).setCell ⟨g,off+j,none⟩ (.int .i64 M[i])) a b (swapL M i j) n D (footA a (.slice (some ⟨g,off,none⟩) M.length cap) b)∧Turn (footA a (.slice (some ⟨g,off,none⟩) M.length cap) b) w ((w.setCell ⟨g,off+i,none⟩ (.int .i64 M[j])).setCell ⟨g,off+j,none⟩ (.int .i64 M[i]))):=by
  refine LH ⟨⟨.slice (some ⟨g,off,none⟩) M.length cap,?_,?_,?_,rfl⟩,?_⟩
  ·exact(Below.heap_setCell _ _ _ _ (fun he=>hap.1 (by rw [he];rfl))).trans ((Below.heap_setCell _ _ _ _ (fun he=>hap.1 (by rw [he];rfl))).trans h1)
  ·have o:=own_setZ (own_setZ h2 i hi M[j]) j (by simpa using hj) M[i]
   unfold swapL;rw [ei,ej];exact o
  ·exact(h3.setCell (fun he=>hap.2.1 (by rw [he];rfl)) _).setCell (fun he=>hap.2.1 (by rw [he];rfl)) _
  ·exact((Turn.refl _ w).setCell (.inl (.inr (.inl rfl))) _).setCell (.inl (.inr (.inl rfl))) _
 obtain⟨x,hx⟩ : ∃x,x=M[i]:=⟨_,rfl⟩;obtain⟨y,hy⟩ : ∃y,y=M[j]:=⟨_,rfl⟩;rw [←hx,←hy] at HS;rw [←hx] at d0;rw [←hy] at d1;clear h1 h2 h3 hap ei ej hx hy hij
 go_enter Tryz.func302,Tryz.ntmps302
 go_upto_region 0 with fail
 go_region
 go_wp2_with fail
 go_end0
 first|exact⟨rfl,HS.out⟩ |exact⟨rfl,HS.out.1.keep (fun _ _=>rfl),HS.out.2.drew⟩ |trace_state
end
section
open Go.ChangeShapes Go.WideShapes Go.ChangeAt Go.RowKit Go.Maps
theorem SetIs.put {D:DataW Unit} {L:List Int} {w:World} {b n:Nat} (h:SetIs D L) (hown:w.ownsMap Tryz.prog 3 (unitElem (H:=Unit)) b n D) {id:Int} (hid:id∉L) :SetIs (D.put (.int .i64 id) (.agg [])) (putH L id):=by
 have hp:=putH_perm L id
 have hf:Go.Maps.has D (.int .i64 id) =false:=by
  rw [←Bool.not_eq_true];exact fun hh=>hid ((h.has id).1 hh)
 refine⟨fun z=> ?_,?_⟩
 ·rw [hp.mem_iff,List.mem_cons]
  by_cases hz:z=id
  ·subst hz
   rw [has_put_same hown.isMap (by simp [WideAt.IsKeyLit])];simp
  ·rw [has_put_other (by simp [hz]),h.has];simp [hz]
 ·rw [size_put (hown.tidy keyI'),hf,h.size,hp.length_eq];simp
theorem AgS.read {w:World} {a b n:Nat} {M:List Int} {D:DataW Unit} {F:Nat→Prop} (h:AgS w a b M n D F) (h0:0<M.length) : ∃g off cap,w.heap[a]? =some (.cells #[.slice (some ⟨g,off,none⟩) M.length cap,.map (some b)] 346 (0,0))∧g<w.heap.size∧∀j,j<M.length→w.cell? ⟨g,off+j,none⟩ =some (.int .i64 (M.getD j 0)):=by
 obtain⟨v,h1,h2,h3,rfl⟩:=h;obtain⟨g,off,cap,rfl,hcap⟩:=own_at0 h2 h0;refine⟨g,off,cap,h1,(h2.lt g rfl).2,fun j hj=> ?_⟩;have d:=h2.slT.cell_at hj 0 (.int .i64 M[j]) rfl;simp only [Nat.mul_one,Nat.add_zero] at d;rw [d];simp [hj]
theorem ag_Put_no (w:World) (a:Nat) (id:Int) (hid:id<1) :Calls Tryz.prog 259 #[.pointer (some ⟨a,0,none⟩),.int .i64 id] w fun e w'=>e=.returned (.bool false)∧Below w.heap.size w w':=by
 go_enter Tryz.func259,Tryz.ntmps259
 go_wp2_with fail;go_ret;exact⟨rfl,bE⟩
theorem ag_Put_in (w:World) (a b:Nat) (L:List Int) (F:Nat→Prop) (h:AgAt w a b L F) (id:Int) (hid:id∈L) (h1:1≤id) (h2:id≤9223372036854775807) :Calls Tryz.prog 259 #[.pointer (some ⟨a,0,none⟩),.int .i64 id] w fun e w'=>e=.returned (.bool false)∧Below w.heap.size w w':=by
 obtain⟨D,⟨v,hh,ho,hm,rfl⟩,hs⟩:=h;have hhas:=(hs.has id).2 hid;have c:=bC hh;have z:=lB hh;have hid1:decide (id<1) =false:=by simp;omega
 have hkey:keyOf Tryz.prog 3 (.int .i64 id) =some (.int .i64 id):=keyOf_int_mk Tryz.underlying3 (WalkArith.wf_i64 (by omega));have HM:=LH hm;clear hs hid hh ho hm
 go_enter Tryz.func259,Tryz.ntmps259
 go_wp2_with ((at_lookup;refine wpList_lookup_own_unit _ rfl _ _ 344 rfl 3 348 keyI' Tryz.underlying344 (zeroU _) b L.length D rfl HM.out _ _ rfl hkey ?_));go_ret;exact⟨rfl,bE⟩
theorem ag_Put_new (w:World) (a b:Nat) (L:List Int) (F:Nat→Prop) (h:AgAt w a b L F) (id:Int) (hid:id∉L) (h1:1≤id) (h2:id≤9223372036854775807) (hL: ∀x∈L,1≤x∧x≤9223372036854775807) (hlen:L.length≤1000000000000) :
 Calls Tryz.prog 259 #[.pointer (some ⟨a,0,none⟩),.int .i64 id] w fun e w'=>∃F',e=.returned (.bool true)∧AgAt w' a b (putH L id) F'∧Turn F w w'∧Grow w F F':=by
 obtain⟨D,⟨v,hh,ho,hm,rfl⟩,hs⟩:=h
 have hhas:Go.Maps.has D (.int .i64 id) =false:=by
  rw [←Bool.not_eq_true];exact fun hh=>hid ((hs.has id).1 hh)
 have hap:=AgS.apart hh ho hm;have HSet:=LH (hs.put hm hid);have c:=bC hh;have z:=lB hh;have hid1:decide (id<1) =false:=by simp;omega
 have hkey:keyOf Tryz.prog 3 (.int .i64 id) =some (.int .i64 id):=keyOf_int_mk Tryz.underlying3 (WalkArith.wf_i64 (by omega));have HM:=LH hm;have HH:=LH hh;have HO:=LH ho;have HA:=LH hap;have HL:=LH hL;clear hs hid hh ho hm hap hL
 go_enter Tryz.func259,Tryz.ntmps259
 go_upto_region 6 with ((at_lookup;refine wpList_lookup_own_unit _ rfl _ _ 344 rfl 3 348 keyI' Tryz.underlying344 (zeroU _) b L.length D rfl HM.out _ _ rfl hkey ?_));have b1:Below w.heap.size w (w.alloc (.cells #[] 348)):=bE;have H1:=LH (bB HH.out b1);have M1:=LH (ownsMap_keep HM.out (b1.block _ HM.out.lt));have O1:=LH (HO.out.below b1);have T1:Hid (Turn (footA a v b) w (w.alloc (.cells #[] 348))):=LH (.of_below b1);generalize w.alloc (.cells #[] 348) =w1 at H1 M1 O1 T1⊢;have c1:=bC H1.out;have z1:=lB H1.out;clear c z HM HO HH b1;go_wp2_with ((at_mapUpdate;refine wpList_mapUpdate_own _ rfl _ _ _ 344 rfl 3 348 keyI' Tryz.underlying344 (unitElem (H:=Unit)) b L.length D rfl M1.out (by unfold maxLen;omega) _ _ _ rfl rfl hkey (.agg []) [] unitElem_mk ?_));intro w2 hown2 hg2;have hbz:=M1.out.lt;have H2:Hid (w2.heap[a]? =some (.cells #[v,.map (some b)] 346 (0,0))):=LH ((hg2.block a z1 (by simp only [ne_eq,Option.some.injEq];exact HA.out.2.2)).trans H1.out);have O2:=LH (O1.out.kept hg2 (.inr HA.out.2.1));have M2:=LH hown2;have T2:Hid (Turn (footA a v b) w w2):=LH (T1.out.grown hg2 fun x hx=>by cases hx;exact .inl (.inr (.inr rfl)));have c2:=bC H2.out;have f2:=bF H2.out;have z2:=lB H2.out;obtain⟨A,cap,rfl,_⟩:=O2.out.form;have HA2:=LH (And.intro HA.out.1 HA.out.2.1);clear c1 z1 H1 M1 O1 T1 hown2 hg2;go_wp2_with ((at_builtin;refine wpList_push tyZ rfl _ _ rfl encZ w2 0 _ _ rfl O2.out id rfl rfl ?p1 ?p2 ?p3 ?p4))
 case p1=>omega
 case p2=>simp only [maxLen];omega
 case p3=>exact Nat.zero_le _
 case p4=>
  intro v3 w3 hown3 hg3 hsz3 hor3 _ _;obtain⟨g,off,cap3,rfl,hcap3⟩:=own_at0 hown3 (by simp);have e3: (L ++ [id]).length=L.length+1:=by simp
  rw [e3] at hown3⊢;simp only [e3] at hor3;have H3:=(hg3.block a z2 HA2.out.1.symm).trans H2.out;have M3:=ownsMap_keep M2.out (hg3.block b M2.out.lt HA2.out.2.symm);have c3:=bC H3;have f3:=bF H3;have z3:=lB H3;have hne3:=hown3.ne_block H3 (by decide);have k4:=zH (i:=0) H3 (.slice (some ⟨g,off,none⟩) (L.length+1) cap3);have o4:=hown3.setCell (p:=⟨a,0,none⟩) hne3 (.slice (some ⟨g,off,none⟩) (L.length+1) cap3);have m4:=M3.setCell (a:=⟨a,0,none⟩) (fun he=>HA.out.2.2 he.symm) (.slice (some ⟨g,off,none⟩) (L.length+1) cap3)
  have G4:Hid (Grow w (footA a (.slice A L.length cap) b) (footA a (.slice (some ⟨g,off,none⟩) (L.length+1) cap3) b)):=LH fun x hx=>by
   rcases hx with rfl|hx|rfl
   ·exact .inl (.inl rfl)
   ·rcases hor3 with h|h
    ·exact .inl (.inr (.inl (by rw [←h];exact hx)))
    ·rw [h] at hx
     cases hx
     exact .inr (by have:=T2.out.size;omega)
   ·exact .inl (.inr (.inr rfl))
  have T4:=LH (((T2.out.grown hg3 fun x hx=>.inl (.inr (.inl hx))).setCell (p:=⟨a,0,none⟩) (.inl (.inl rfl)) (.slice (some ⟨g,off,none⟩) (L.length+1) cap3)));have S4:Hid (AgS (w3.setCell ⟨a,0,none⟩ (.slice (some ⟨g,off,none⟩) (L.length+1) cap3)) a b (L ++ [id]) (L.length+1) (D.put (.int .i64 id) (.agg [])) (footA a (.slice (some ⟨g,off,none⟩) (L.length+1) cap3) b)):=LH ⟨_,k4,o4,m4,rfl⟩;clear H3 M3 hne3 k4 o4 m4 hg3 hor3 c2 f2 H2 O2 M2 T2 hown3 HA2;go_upto_region 8 with fail;generalize (w3.setCell ⟨a,0,none⟩ (.slice (some ⟨g,off,none⟩) (L.length+1) cap3)) =w4 at S4 T4⊢;generalize hF:footA a (.slice (some ⟨g,off,none⟩) (L.length+1) cap3) b=F' at S4 G4;generalize D.put (.int .i64 id) (.agg []) =D' at S4 HSet;clear c3 f3 z3 z2 hF hcap3 e3 hsz3
  have hM0: ∀x∈L ++ [id],1≤x∧x≤9223372036854775807:=fun x hx=>by
   rcases List.mem_append.1 hx with hx|hx
   ·exact HL.out x hx
   ·obtain rfl:=List.mem_singleton.1 hx;exact⟨h1,h2⟩
  have HM0:=LH hM0;have hl4: (L ++ [id]).length=L.length+1:=by simp
  obtain⟨g4,off4,cap4,hh4,hg4,_⟩:=S4.out.read (by simp);rw [hl4] at hh4;have c4:=bC hh4;have z4:=lB hh4;clear hM0 hh4 hg4 HL;go_wp2_with fail
  go_loopw [7] (fun i wr=>∃(q k:Nat) (M:List Int),i=.int .i64 q∧AgS wr a b M (L.length+1) D' F'∧q<M.length∧q≤k∧upH k M q=putH L id∧(∀x∈M,1≤x∧x≤9223372036854775807)∧M.length=L.length+1∧Turn (footA a (.slice A L.length cap) b) w wr) (fun i _=>(intOf i).toNat)
  case atStart=>exact⟨L.length,L.length,L ++ [id],by first|rfl|go_num,S4.out,by simp,Nat.le_refl _,rfl,HM0.out,by simp,T4.out⟩
  case round=>
   obtain⟨q,k,M,rfl,hS,hq,hk,hup,hM,hlen2,hT⟩:=hrel;have HS:=LH hS;have HU:=LH hup;have HX:=LH hM;have HT:=LH hT;have HLn:=LH hlen2;have hq2:q≤L.length:=by omega
   clear c4 z4 S4 T4 HM0 hl4;obtain⟨g5,off5,cap5,hh5,hg5,hrd⟩:=hS.read (by omega);rw [hlen2] at hh5;clear hS hup hM hT hlen2;by_cases hq0:q=0
   ·subst hq0
    have e0:upH k M 0=M:=by cases k with
     |zero=>rfl
     |succ k=>simp [upH]
    rw [e0] at HU;have hd:decide ((0:Int) < ((0:Nat) :Int)) =false:=by simp
    clear hrd hh5;go_upto_region 9 with fail;refine rX (by kernel_rfl) (by kernel_rfl) ?_
    repeat (go_big_quiet_step (fail))
    refine wpQuiet_nil ?_;intro w6 h6;have hb6:=bX h6;have HS6:=LH (HS.out.below hb6);have HT6:=LH (HT.out.more hb6);clear h6 hb6;go_wp2_with fail;go_ret;refine⟨F',rfl,⟨D',?_,HSet.out⟩,HT6.out,G4.out⟩;rw [←HU.out,HLn.out];exact HS6.out
   ·obtain⟨p,hp⟩ : ∃p,p= (q - 1) / 2:=⟨_,rfl⟩
    have hpq:p<q:=by omega
    have d0:=hrd q (by omega);have d1:=hrd p (by omega);have c5:=bC hh5;have z5:=lB hh5;have x0:=HX.out (M.getD q 0) (by simp [List.getD_eq_getElem?_getD,hq]);have x1:=HX.out (M.getD p 0) (by simp [List.getD_eq_getElem?_getD,(by omega:p<M.length)]);have HAh:=LH (fun W=>fold_ahead W (M.getD q 0) (M.getD p 0) x0.2 x1.2 x0.1 x1.1);have hpos: (0:Int) < (q:Int):=by omega
    have hpos1:0<q:=by omega
    have hposd:decide ((0:Int) < (q:Int)) =true:=by simpa using hpos1
    have e1: ((q:Int) - 1).tdiv 2= (p:Int):=by rw [Int.tdiv_eq_ediv_of_nonneg (by omega)];omega
    have e2: ((q:Int) - 1) / 2= (p:Int):=by omega
    obtain⟨k',rfl⟩ : ∃k',k=k'+1:=⟨k - 1,by omega⟩;have HSw:=LH (fun W hS=>ag_swap W a b (L.length+1) M D' F' hS q p hq (by omega) (by omega) (by have:=HLn.out;omega));generalize hxq:M.getD q 0=x at d0 HAh;generalize hxp:M.getD p 0=y at d1 HAh
    have HU2:Hid ((if aheadI x y=true then upH k' (swapL M q p) p else M) =putH L id):=LH (by
     have:=HU.out;simp only [upH] at this;rw [←hp,hxq,hxp] at this
     simpa [show 0<q by omega] using this)
    have hp2:p≤L.length:=by omega
    have hpk:p≤k':=by omega
    clear hrd hh5 x0 x1 HU hxq hxp hp;go_upto_region 9 with fail;refine rX (by kernel_rfl) (by kernel_rfl) ?_
    repeat (go_big_quiet_step ((go_at_call 301;exact quiet_ext (HAh.out _))))
    refine wpQuiet_nil ?_;intro w6 h6;have hb6:=bX h6;have HS6:=LH (HS.out.below hb6);have HT6:=LH (HT.out.more hb6);clear h6 hb6 d0 d1 c5 z5
    cases hah:aheadI x y
    ·rw [hah,if_neg (by simp)] at HU2
     go_wp2_with fail;go_ret;refine⟨F',rfl,⟨D',?_,HSet.out⟩,HT6.out,G4.out⟩;rw [←HU2.out,HLn.out];exact HS6.out
    ·rw [hah,if_pos rfl] at HU2
     go_wp2_with fail;refine(HSw.out _ HS6.out).mono ?_;rintro e w7 ⟨rfl,hs7,ht7⟩;have HS7:=LH hs7;have HT7:=LH (HT6.out.trans ht7 G4.out);clear hs7 ht7;go_wp2_with fail;go_roundw
     case rel=>exact⟨p,k',swapL M q p,by first|rfl| (rw [e2]) | (rw [e1]),HS7.out,by rw [swapL_len];omega,hpk,HU2.out,fun z hz=>HX.out z ((swapL_perm hq (by omega)).mem_iff.1 hz),by rw [swapL_len];exact HLn.out,HT7.out⟩
     case measure=>simp [intOf];omega
end
section
open Go.ChangeShapes Go.WideShapes Go.ChangeAt Go.RowKit Go.Maps
theorem getD_mem {M:List Int} {q:Nat} (hq:q<M.length) :M.getD q 0∈M:=by simp [List.getD_eq_getElem?_getD,hq]
def FstJ (R:List Int) (q j ff:Nat) :Prop:=(j=0→ff=q)∧(j=1→ff=stepH R q (2*q+1))∧(j=2→ff=firstH R q)
theorem FstJ.next {R:List Int} {q j ff:Nat} (h:FstJ R q j ff) (hj:j≤1) :FstJ R q (j+1) (stepH R ff (2*q+1+j)):=by
 refine⟨by omega,fun h1=> ?_,fun h1=> ?_⟩
 ·obtain rfl:j=0:=by omega
  rw [h.1 rfl]
 ·obtain rfl:j=1:=by omega
  rw [h.2.1 rfl]
  rfl
theorem FstJ.exit {R:List Int} {q j ff:Nat} (h:FstJ R q j ff) (hj:j≤2) (hx:j=2∨R.length≤2*q+1+j) :ff=firstH R q:=by
 rcases (by omega:j=0∨j=1∨j=2) with rfl|rfl|rfl
 ·rw [h.1 rfl]
  unfold firstH;have e1:stepH R q (2*q+1) =q:=by unfold stepH;rw [if_neg (by omega)]
  rw [e1];unfold stepH;rw [if_neg (by omega)]
 ·rw [h.2.1 rfl]
  unfold firstH;generalize stepH R q (2*q+1) =z;unfold stepH;rw [if_neg (by omega)]
 ·exact h.2.2 rfl
theorem ag_sink (w:World) (a b n:Nat) (M:List Int) (D:DataW Unit) (F:Nat→Prop) (h:AgS w a b M n D F) (h0:0<M.length) (hM: ∀x∈M,1≤x∧x≤9223372036854775807) (hlen:M.length≤1000000000001) :
 Calls Tryz.prog 298 #[.pointer (some ⟨a,0,none⟩)] w fun e w'=>e=.returned (.tuple #[])∧AgS w' a b (downH M.length M 0) n D F∧Turn F w w':=by
 have HS0:=LH h;have HM0:=LH hM;obtain⟨m,hm⟩ : ∃m,m=M.length:=⟨_,rfl⟩;obtain⟨T,hT⟩ : ∃T,T=downH M.length M 0:=⟨_,rfl⟩;rw [←hT];have HT0:Hid (downH m M 0=T):=LH (by rw [hm,hT]);have HML:Hid (M.length=m):=LH hm.symm;rw [←hm] at h0 hlen;clear h hM hT hm
 go_enter Tryz.func298,Tryz.ntmps298
 go_wp2_with fail
 go_loopw [2,3,4] (fun i _ _ wr=>∃(q k:Nat) (R:List Int),i=.int .i64 q∧AgS wr a b R n D F∧q<R.length∧R.length≤k+q∧downH k R q=T∧(∀x∈R,1≤x∧x≤9223372036854775807)∧R.length=m∧Turn F w wr) (fun i _ _ _=>m - (intOf i).toNat)
 case atStart=>exact⟨0,m,M,rfl,HS0.out,by rw [HML.out];exact h0,by rw [HML.out];omega,HT0.out,HM0.out,HML.out,Turn.refl _ _⟩
 case round=>
  obtain⟨q,k,R,rfl,hS,hq,hk,hdn,hR,hRl,hTn⟩:=hrel;have HS:=LH hS;have HD:=LH hdn;have HX:=LH hR;have HT:=LH hTn;have HL:=LH hRl;have hq2:q<m:=by omega
  obtain⟨k',rfl⟩ : ∃k',k=k'+1:=⟨k - 1,by omega⟩;have hk2:m≤k'+1+q:=by omega
  clear hS hdn hR hTn hRl hq hk HS0 HM0 HT0 HML;go_wp2_with fail
  go_loopw [3,4] (fun f c wr=>∃(j cc:Nat) (ff:Nat),cc=2*q+1+j∧c=.int .i64 cc∧f=.int .i64 ff∧j≤2∧ff<m∧FstJ R q j ff∧AgS wr a b R n D F∧Turn F w wr) (fun _ c _=>2*q+4 - (intOf c).toNat)
  case atStart=>exact⟨0,2*q+1,q,rfl,by first|rfl|go_num|trace_state,rfl,by omega,hq2,⟨fun _=>rfl,by omega,by omega⟩,HS.out,HT.out⟩
  case round=>
   obtain⟨j,c,ff,hc,rfl,rfl,hj,hff,hJ,hS2,hT2⟩:=hrel;have HC:=LH hc;have HJ:=LH hJ;have HS2:=LH hS2;have HT2:=LH hT2;obtain⟨g5,off5,cap5,hh5,hg5,hrd⟩:=hS2.read (by rw [HL.out];omega);rw [HL.out] at hh5 hrd;have c5:=bC hh5;have z5:=lB hh5;clear hS2 hT2 hJ hh5 HS HT;by_cases hgo:j≤1∧c<m
   ·have hcl: (c:Int)≤2* (q:Int) +2:=by omega
    have hcm: (c:Int) < (m:Int):=by omega
    have d0:=hrd c hgo.2;have d1:=hrd ff hff;have x0:=HX.out _ (getD_mem (M:=R) (q:=c) (by rw [HL.out];exact hgo.2));have x1:=HX.out _ (getD_mem (M:=R) (q:=ff) (by rw [HL.out];exact hff));have HAh:=LH (fun W=>fold_ahead W (R.getD c 0) (R.getD ff 0) x0.2 x1.2 x0.1 x1.1)
    have HSt:Hid (stepH R ff c=if aheadI (R.getD c 0) (R.getD ff 0) =true then c else ff):=LH (by
     unfold stepH;simp only [HL.out,hgo.2,true_and])
    generalize R.getD c 0=x at d0 HAh HSt;generalize R.getD ff 0=y at d1 HAh HSt;have hj1:=hgo.1;have hcm2:=hgo.2;have hfm: (ff:Int) < (m:Int):=by omega
    have HN:=LH (HC.out ▸ HJ.out.next hj1);clear hrd x0 x1 hgo hc;go_upto_region 5 with fail;refine rX (by kernel_rfl) (by kernel_rfl) ?_
    repeat (go_big_quiet_step ((go_at_call 301;exact quiet_ext (HAh.out _))))
    refine wpQuiet_nil ?_;intro w6 h6;have hb6:=bX h6;have HS6:=LH (HS2.out.below hb6);have HT6:=LH (HT2.out.more hb6);clear h6 hb6 d0 d1 c5 z5
    cases hah:aheadI x y
    ·rw [hah,if_neg (by simp)] at HSt
     go_wp2_with fail;go_roundw
     case rel=>exact⟨j+1,c+1,ff,by have:=HC.out;omega,by first|rfl|go_num|trace_state,rfl,by omega,hff,by have:=HN.out;rw [HSt.out] at this;exact this,HS6.out,HT6.out⟩
     case measure=>have:=HC.out;simp [intOf];omega
    ·rw [hah,if_pos rfl] at HSt
     go_wp2_with fail;go_roundw
     case rel=>exact⟨j+1,c+1,c,by have:=HC.out;omega,by first|rfl|go_num|trace_state,rfl,by omega,hcm2,by have:=HN.out;rw [HSt.out] at this;exact this,HS6.out,HT6.out⟩
     case measure=>have:=HC.out;simp [intOf];omega
   ·have hex:decide ((c:Int)≤2* (q:Int) +2) =false∨((c:Int)≤2* (q:Int) +2∧decide (c<m) =false):=by
     by_cases hj2:j=2
     ·exact .inl (by simp;omega)
     ·exact .inr ⟨by omega,by simp;omega⟩
    have HFf:=LH (HJ.out.exit hj (by rw [HL.out];omega))
    have HDn:Hid ((if ff=q then R else downH k' (swapL R q ff) ff) =T):=LH (by
     have:=HD.out;simp only [downH] at this;rw [←HFf.out] at this;exact this)
    have hle:q≤ff:=by rw [HFf.out];exact firstH_le R q
    have HSw:=LH (fun W hS hne=>ag_swap W a b n R D F hS q ff (by rw [HL.out];exact hq2) (by rw [HL.out];exact hff) hne (by rw [HL.out];omega));clear hrd hgo hc;rcases hex with k1| ⟨k1,k2⟩
    all_goals
     by_cases hfq:ff=q
     ·rw [if_pos hfq] at HDn
      subst hfq;have hfe: ((ff:Int) == (ff:Int)) =true:=by simp
      go_wp2_with fail;exact bR (v:=.tuple #[]) (by simp only [results,Tryz.results298];go_simp) rfl ⟨rfl,HDn.out ▸ HS2.out,HT2.out⟩
     ·rw [if_neg hfq] at HDn
      have hfe: ((ff:Int) == (q:Int)) =false:=by simp;omega
      go_wp2_with fail;refine(HSw.out _ HS2.out (fun e=>hfq e.symm)).mono ?_;rintro e w7 ⟨rfl,hs7,ht7⟩;have HS7:=LH hs7;have HT7:=LH (HT2.out.trans ht7 Grow.refl);clear hs7 ht7;go_wp2_with fail;go_roundw
      case rel=>exact⟨ff,k',swapL R q ff,rfl,HS7.out,by rw [swapL_len,HL.out];exact hff,by rw [swapL_len,HL.out];omega,HDn.out,fun z hz=>HX.out z ((swapL_perm (by rw [HL.out];exact hq2) (by rw [HL.out];exact hff)).mem_iff.1 hz),by rw [swapL_len];exact HL.out,HT7.out⟩
      case measure=>simp [intOf];omega
theorem ag_sink_nil (w:World) (a b n:Nat) (D:DataW Unit) (F:Nat→Prop) (h:AgS w a b [] n D F) :
 Calls Tryz.prog 298 #[.pointer (some ⟨a,0,none⟩)] w fun e w'=>e=.returned (.tuple #[])∧AgS w' a b [] n D F∧Turn F w w':=by
 have HS0:=LH h;obtain⟨v,hh,ho,_,_⟩:=h;obtain⟨A,cap,rfl,_⟩:=ho.form;have c:=bC hh;have z:=lB hh;simp only [List.length_nil] at c;clear hh ho
 go_enter Tryz.func298,Tryz.ntmps298
 go_wp2_with fail
 go_loopw [2] (fun i wr=>i=.int .i64 0∧wr=w) (fun _ _=>0)
 case atStart=>exact⟨rfl,rfl⟩
 case round=>
  obtain⟨rfl,rfl⟩:=hrel;go_wp2_with fail
  go_loopw [3,4] (fun f c W=>f=.int .i64 0∧c=.int .i64 1∧W=wr) (fun _ _ _=>0)
  case atStart=>exact⟨rfl,rfl,rfl⟩
  case round=>
   obtain⟨rfl,rfl,rfl⟩:=hrel;go_wp2_with fail;exact bR (v:=.tuple #[]) (by simp only [results,Tryz.results298];go_simp) rfl ⟨rfl,HS0.out,Turn.refl _ _⟩
theorem ownsMap_shrink {w:World} {b n:Nat} {D:DataW Unit} {R:Value→Option (DataW Unit×List MemPlace)} (h:w.ownsMap Tryz.prog 3 R b n D) :w.ownsMap Tryz.prog 3 R b (Go.Maps.size D) D:=by
 obtain⟨es,clock,h1,h2,h3,rfl⟩:=h;refine⟨es,clock,h1,h2,?_,rfl⟩;simp [Go.Maps.size,length_sorted]
theorem SetIs.pop {D:DataW Unit} {x:Int} {L:List Int} {w:World} {b n:Nat} (h:SetIs D (x :: L)) (hown:w.ownsMap Tryz.prog 3 (unitElem (H:=Unit)) b n D) (hx:x∉L) :SetIs (D.del (.int .i64 x)) (popH (x :: L)):=by
 have hp:=popH_perm x L;refine⟨fun z=> ?_,?_⟩
 ·rw [hp.mem_iff]
  by_cases hz:z=x
  ·subst hz
   rw [has_del_same];simp [hx]
  ·rw [has_del_other (by simp [hz]),h.has];simp [hz]
 ·have hd:=size_del (k:=.int .i64 x) (hown.tidy keyI')
  rw [(h.has x).2 (by simp),h.size] at hd;rw [hp.length_eq];simp at hd
  omega
theorem ag_sink_any (w:World) (a b n:Nat) (M:List Int) (D:DataW Unit) (F:Nat→Prop) (h:AgS w a b M n D F) (hM: ∀x∈M,1≤x∧x≤9223372036854775807) (hlen:M.length≤1000000000001) :
 Calls Tryz.prog 298 #[.pointer (some ⟨a,0,none⟩)] w fun e w'=>e=.returned (.tuple #[])∧AgS w' a b (downH M.length M 0) n D F∧Turn F w w':=by
 by_cases h0:0<M.length
 ·exact ag_sink w a b n M D F h h0 hM hlen
 ·have:M= []:=List.length_eq_zero_iff.1 (by omega)
  subst this;exact ag_sink_nil w a b n D F h
theorem ag_Pop (w:World) (a b:Nat) (x:Int) (L:List Int) (F:Nat→Prop) (h:AgAt w a b (x :: L) F) (hx:x∉L) (hM: ∀y∈x :: L,1≤y∧y≤9223372036854775807) (hlen:L.length≤1000000000000) :
 Calls Tryz.prog 256 #[.pointer (some ⟨a,0,none⟩)] w fun e w'=>e=.returned (.tuple #[.int .i64 x,.bool true])∧AgAt w' a b (popH (x :: L)) F∧Turn F w w':=by
 obtain⟨D,hS,hs⟩:=h;have HLn:=LH (ag_Len w a b _ (x :: L) D F hS);obtain⟨v,hh,ho,hm,rfl⟩:=hS;have hap:=AgS.apart hh ho hm;have HA:=LH hap;have HSet:=LH (hs.pop hm hx);have HK:Hid (keyOf Tryz.prog 3 (.int .i64 x) =some (.int .i64 x)):=LH (keyOf_int_mk Tryz.underlying3 (WalkArith.wf_i64 (by have:=hM x (by simp);omega)));obtain⟨g,off,cap,rfl,hcap⟩:=own_at0 ho (by simp);obtain⟨n,hn⟩ : ∃n,n=L.length:=⟨_,rfl⟩;have hN1: (x :: L).length=n+1:=by rw [hn];simp
 obtain⟨y,hy⟩ : ∃y,y= (x :: L).getD n 0:=⟨_,rfl⟩;have hpop:popH (x :: L) =downH n (((x :: L).set 0 y).take n) 0:=by rw [hy,hn];rfl
 have HPop:=LH hpop;have hyM:y∈x :: L:=by rw [hy];exact getD_mem (by rw [hN1];omega)
 have hM2: ∀z∈((x :: L).set 0 y).take n,1≤z∧z≤9223372036854775807:=fun z hz=>by
  have:=List.mem_of_mem_take hz;rcases List.mem_or_eq_of_mem_set this with h|h
  ·exact hM z h
  ·rw [h];exact hM y hyM
 have HM2:=LH hM2;have HML:Hid ((((x :: L).set 0 y).take n).length=n):=LH (by rw [List.length_take,List.length_set,hN1];omega);rw [hN1] at HLn hh ho hm hcap HA hap⊢;have ga:g≠a:=fun he=>hap.1 (by rw [he];rfl);have HH:=LH hh;have HO:=LH ho;have HMp:=LH hm;have hlen2:n≤1000000000000:=by omega
 have HN:=LH hN1;have HY:=LH hy;clear hs hh ho hm hap hx hM hn hN1 hy hpop hyM hM2 hlen
 go_enter Tryz.func256,Tryz.ntmps256
 go_wp2_with fail;refine HLn.out.mono ?_;rintro e w1 ⟨rfl,hb1⟩;have H1:=LH (bB HH.out hb1);have O1:=LH (HO.out.below hb1);have M1:=LH (ownsMap_keep HMp.out (hb1.block b HMp.out.lt));have T1:Hid (Turn (footA a (.slice (some ⟨g,off,none⟩) (n+1) cap) b) w w1):=LH (.of_below hb1);have c1:=bC H1.out;have z1:=lB H1.out;have zg1:=(O1.out.lt g rfl).2;have d0:=O1.out.slT.cell_at (k:=0) (by rw [HN.out];omega) 0 (.int .i64 x) rfl;simp only [Nat.zero_mul,Nat.add_zero] at d0;clear hb1;go_upto_region 3 with fail;refine rX (by kernel_rfl) (by kernel_rfl) ?_
 repeat (go_big_quiet_step (fail))
 refine wpQuiet_nil ?_;intro w2 h2;have hb2:=bX h2;have H2:=LH (bB H1.out hb2);have O2:=LH (O1.out.below hb2);have M2:=LH (ownsMap_keep M1.out (hb2.block b M1.out.lt));have T2:=LH (T1.out.more hb2);clear h2 hb2 c1 z1 zg1 d0 H1 O1 M1 T1 HLn HH HO HMp;have c2:=bC H2.out;have z2:=lB H2.out;have zg2:=(O2.out.lt g rfl).2;have fg:=O2.out.frozen;have d0:=O2.out.slT.cell_at (k:=0) (by rw [HN.out];omega) 0 (.int .i64 x) rfl
 have d1:=O2.out.slT.cell_at (k:=n) (by rw [HN.out];omega) 0 (.int .i64 y) (by
  have: (x :: L)[n]'(by rw [HN.out];omega) =y:=by rw [HY.out,List.getD_eq_getElem?_getD,List.getElem?_eq_getElem (by rw [HN.out];omega)];rfl
  rw [this];rfl)
 simp only [Nat.zero_mul,Nat.mul_one,Nat.add_zero] at d0 d1;have o3:=own_setZ O2.out 0 (by rw [HN.out];omega) y;simp only [Nat.add_zero] at o3;have h3:=(Below.heap_setCell w2 ⟨g,off,none⟩ (.int .i64 y) a (fun he=>ga he.symm)).trans H2.out;have m3:=M2.out.setCell (a:=⟨g,off,none⟩) (fun he=>HA.out.2.1 (by rw [he];rfl)) (.int .i64 y);have t3:=T2.out.setCell (p:=⟨g,off,none⟩) (.inl (.inr (.inl rfl))) (.int .i64 y);go_upto_region 4 with fail;have O3:=LH o3.drew;have H3:Hid ((w2.setCell ⟨g,off,none⟩ (.int .i64 y)).drew.heap[a]? =_):=LH h3;have M3:Hid ((w2.setCell ⟨g,off,none⟩ (.int .i64 y)).drew.ownsMap Tryz.prog 3 (unitElem (H:=Unit)) b (n+1) D):=LH m3;have T3:=LH t3.drew;clear o3 h3 m3 t3
 go_region
 generalize (w2.setCell ⟨g,off,none⟩ (.int .i64 y)).drew=w3 at O3 H3 M3 T3⊢;clear c2 z2 zg2 fg d0 d1 H2 O2 M2 T2;have c3:=bC H3.out;have f3:=bF H3.out;have z3:=lB H3.out;have hnc:n≤cap:=by omega
 have o4:=O3.out.upTo (k:=n) (by rw [List.length_set,HN.out];omega)
 have S4:Hid (AgS (w3.setCell ⟨a,0,none⟩ (.slice (some ⟨g,off,none⟩) n cap)) a b (((x :: L).set 0 y).take n) (n+1) D (footA a (.slice (some ⟨g,off,none⟩) (n+1) cap) b)):=
  LH ⟨.slice (some ⟨g,off,none⟩) n cap,zH (i:=0) H3.out (.slice (some ⟨g,off,none⟩) n cap),o4.setCell (p:=⟨a,0,none⟩) (o4.ne_block H3.out (by decide)) _,M3.out.setCell (a:=⟨a,0,none⟩) (fun he=>HA.out.2.2 he.symm) _,rfl⟩
 have T4:=LH (T3.out.setCell (p:=⟨a,0,none⟩) (.inl (.inl rfl)) (.slice (some ⟨g,off,none⟩) n cap));clear o4 H3 M3 T3 O3;go_upto_region 6 with fail;generalize w3.setCell ⟨a,0,none⟩ (.slice (some ⟨g,off,none⟩) n cap) =w4 at S4 T4⊢;generalize hFe:footA a (.slice (some ⟨g,off,none⟩) (n+1) cap) b=F at S4 T4;have HFe:=LH hFe;clear hFe;generalize ((x :: L).set 0 y).take n=M' at S4 HM2 HML HPop;clear c3 f3 z3;have HSk:=LH (ag_sink_any w4 a b (n+1) M' D F S4.out HM2.out (by rw [HML.out];omega));rw [HML.out] at HSk;go_wp2_with fail;refine HSk.out.mono ?_;rintro e w5 ⟨rfl,hs5,ht5⟩;have HS5:=LH hs5;have T5:=LH (T4.out.trans ht5 Grow.refl);rw [←HPop.out] at HS5;obtain⟨v5,hh5,ho5,hm5,hF5⟩:=HS5.out;have c5:=bC hh5;have z5:=lB hh5;have M5:=LH hm5;have HH5:=LH hh5;have HO5:=LH ho5;have HA5:=LH (AgS.apart hh5 ho5 hm5);clear hs5 ht5 hm5 hh5 ho5 HSk;go_wp2_with ((at_delete;refine wpList_delete_own _ rfl _ _ 344 3 rfl 348 keyI' Tryz.underlying344 (unitElem (H:=Unit)) b (n+1) D rfl M5.out _ _ rfl HK.out ?_;intro w6 hown6 hturn6));have hg6:=hturn6.grown
 have A6:AgAt w6 a b (popH (x :: L)) F:=by
  refine⟨D.del (.int .i64 x),⟨v5,?_,?_,?_,hF5⟩,HSet.out⟩
  ·exact(hg6.block a (lB HH5.out) (by simp only [ne_eq,Option.some.injEq];exact HA5.out.2.2)).trans HH5.out
  ·exact HO5.out.kept hg6 (.inr HA5.out.2.1)
  ·have:=ownsMap_shrink hown6
   rwa [HSet.out.size] at this
 have T6:=T5.out.grown hg6 (fun z hz=>by cases hz;exact .inl (by rw [hF5];exact .inr (.inr rfl)));refine bR (v:=.tuple #[.int .i64 x,.bool true]) (by simp only [results,Tryz.results256];go_simp) rfl ⟨rfl,?_,?_⟩
 ·rw [HFe.out];exact A6
 ·rw [HFe.out];exact T6
end
section
open Go.ChangeShapes Go.WideShapes Go.ChangeAt Go.RowKit Go.Maps
def AgPutPost (w:World) (a b:Nat) (L:List Int) (F:Nat→Prop) (e:Ending) (w':World) :Prop:=∃(t:Bool) (F':Nat→Prop),e=.returned (.bool t)∧AgAt w' a b L F'∧Turn F w w'∧Grow w F F'
theorem ag_Put (w:World) (a b:Nat) (L:List Int) (F:Nat→Prop) (h:AgAt w a b L F) (id:Int) (h2:id≤9223372036854775807) (hL: ∀x∈L,1≤x∧x≤9223372036854775807) (hlen:L.length≤1000000000000) :
 Calls Tryz.prog 259 #[.pointer (some ⟨a,0,none⟩),.int .i64 id] w (AgPutPost w a b (putW L id) F):=by
 by_cases h1:id<1
 ·have e:putW L id=L:=by unfold putW;rw [if_pos (.inl h1)]
  rw [e];refine(ag_Put_no w a id h1).mono ?_;rintro e w' ⟨rfl,hb⟩;exact⟨false,F,rfl,h.below hb,.of_below hb,Grow.refl⟩
 ·by_cases hid:id∈L
  ·have e:putW L id=L:=by unfold putW;rw [if_pos (.inr hid)]
   rw [e];refine(ag_Put_in w a b L F h id hid (by omega) h2).mono ?_;rintro e w' ⟨rfl,hb⟩;exact⟨false,F,rfl,h.below hb,.of_below hb,Grow.refl⟩
  ·have e:putW L id=putH L id:=by unfold putW;rw [if_neg (by rintro(h|h);exact h1 h;exact hid h)]
   rw [e];refine(ag_Put_new w a b L F h id hid (by omega) h2 hL hlen).mono ?_;rintro e w' ⟨F',rfl,ha,ht,hg⟩;exact⟨true,F',rfl,ha,ht,hg⟩
def putAll (ids:List Int) :List Int:=ids.foldl putW []
theorem putAll_snoc {ids:List Int} {q:Nat} (h:q<ids.length) :putAll (ids.take (q+1)) =putW (putAll (ids.take q)) ids[q]:=by
 unfold putAll;rw [List.take_succ_eq_append_getElem h,List.foldl_append];rfl
theorem foldW_len (ids:List Int) : ∀L:List Int,(ids.foldl putW L).length≤L.length+ids.length:=by
 induction ids with
 |nil=>intro L;simp
 |cons x ids ih=>
  intro L;have h1:=ih (putW L x);have h2:=putW_len L x;simp only [List.foldl_cons,List.length_cons];omega
theorem putAll_len (ids:List Int) : (putAll ids).length≤ids.length:=by
 have:=foldW_len ids []
 simpa [putAll] using this
theorem foldW_mem (ids:List Int) : ∀(L:List Int) (z:Int),z∈ids.foldl putW L↔z∈L∨(1≤z∧z∈ids):=by
 induction ids with
 |nil=>intro L z;simp
 |cons x ids ih=>
  intro L z;rw [List.foldl_cons,ih,putW_mem,List.mem_cons]
  constructor
  ·rintro((h| ⟨h1,rfl⟩) | ⟨h1,h2⟩)
   ·exact .inl h
   ·exact .inr ⟨h1,.inl rfl⟩
   ·exact .inr ⟨h1,.inr h2⟩
  ·rintro(h| ⟨h1,h2|h2⟩)
   ·exact .inl (.inl h)
   ·exact .inl (.inr ⟨h2 ▸ h1,h2⟩)
   ·exact .inr ⟨h1,h2⟩
theorem putAll_mem (ids:List Int) (z:Int) :z∈putAll ids↔1≤z∧z∈ids:=by
 unfold putAll;rw [foldW_mem];simp
theorem foldW_wait (ids:List Int) : ∀L:List Int,WaitL L→WaitL (ids.foldl putW L):=by
 induction ids with
 |nil=>intro L h;exact h
 |cons x ids ih=>intro L h;exact ih _ (h.put x)
theorem putAll_wait (ids:List Int) :WaitL (putAll ids):=foldW_wait ids [] .nil
theorem putAll_vals {ids:List Int} (h: ∀x∈ids,x≤9223372036854775807) : ∀x∈putAll ids,1≤x∧x≤9223372036854775807:=fun x hx=>⟨((putAll_mem ids x).1 hx).1,h x ((putAll_mem ids x).1 hx).2⟩
def AgNewPost (w:World) (L:List Int) (e:Ending) (w':World) :Prop:=∃(a b:Nat) (F:Nat→Prop),e=.returned (.pointer (some ⟨a,0,none⟩))∧AgAt w' a b L F∧(∀x,F x→w.heap.size≤x)∧Below w.heap.size w w'
theorem fold_New (w:World) (A:Option Addr) (cap:Nat) (ids:List Int) (hS:Sl w w.heap.size encZ A ids) (hI: ∀x∈ids,x≤9223372036854775807) (hlen:ids.length≤1000000000000) :
 Calls Tryz.prog 253 #[.slice A ids.length cap] w (AgNewPost w (putAll ids)):=by
 have hmm:=@run_makeMap Tryz.prog;have HS:=LH hS;have HI:=LH hI;clear hS hI
 go_enter Tryz.func253,Tryz.ntmps253
 have M0:=LH (World.ownsMap_made w Tryz.prog 3 (unitElem (H:=Unit)));have al:=fun (W:World) (o:Obj)=>(Below.refl W.heap.size W).alloc (Nat.le_refl _) o;have BW0:Hid (Below w.heap.size w ((w.alloc (.map #[] 0)).alloc (.cells #[.slice none 0 0,.map (some w.heap.size)] 346))):=LH bE
 have A0:Hid (∃F,AgAt ((w.alloc (.map #[] 0)).alloc (.cells #[.slice none 0 0,.map (some w.heap.size)] 346)) (w.heap.size+1) w.heap.size [] F∧∀x,F x→w.heap.size≤x):=LH ⟨_,⟨.map [],⟨.slice none 0 0,heap_new_at (w.alloc (.map #[] 0)) _ _ (by simp),.nil _ _ _ _,ownsMap_keep M0.out ((al (w.alloc (.map #[] 0)) _).block _ (by simp)),rfl⟩,⟨fun z=>by simp [Go.Maps.has],rfl⟩⟩,fun x hx=>by
  rcases hx with rfl|hx|rfl
  ·omega
  ·cases hx
  ·exact Nat.le_refl _⟩
 go_upto_region 2 with fail;generalize (w.alloc (.map #[] 0)).alloc (.cells #[.slice none 0 0,.map (some w.heap.size)] 346) =W0 at BW0 A0⊢;obtain⟨F0,hA0,hF0⟩:=A0.out;have HA0:=LH hA0;have HF0:=LH hF0;obtain⟨ga,hga⟩ : ∃ga,ga=w.heap.size+1:=⟨_,rfl⟩;obtain⟨gm,hgm⟩ : ∃gm,gm=w.heap.size:=⟨_,rfl⟩;rw [←hga,←hgm] at HA0;rw [←hga];clear A0 hA0 hF0 M0 al hga hgm;go_wp2_with fail
 go_loopw [11] (fun j wr=>∃(q:Nat) (F:Nat→Prop),q≤ids.length∧j=.int .i64 q∧AgAt wr ga gm (putAll (ids.take q)) F∧(∀x,F x→w.heap.size≤x)∧Below w.heap.size w wr) (fun j _=>ids.length - (intOf j).toNat)
 case atStart=>exact⟨0,F0,Nat.zero_le _,rfl,HA0.out,HF0.out,BW0.out⟩
 case round=>
  obtain⟨q,F,hq,rfl,hA,hF,hB⟩:=hrel;have HA:=LH hA;have HF:=LH hF;have HB:=LH hB;clear hA hF HA0;by_cases hlt:q<ids.length
  ·have hqi: (q:Int) < (ids.length:Int):=by omega
   obtain⟨b,off,rfl,hb,hc⟩:=HS.out.at_ hlt;have d0:=(hB.cell (p:=⟨b,off+q,none⟩) hb).trans (by have:=hc 0 (.int .i64 ids[q]) rfl;simpa using this);have lb:b<wr.heap.size:=Nat.lt_of_lt_of_le hb hB.size;have hx2:=HI.out _ (List.getElem_mem hlt);have HSn:=LH (putAll_snoc hlt);have hle:=putAll_len (ids.take q);rw [List.length_take] at hle;have HPut:=LH (fun W h=>ag_Put W ga gm (putAll (ids.take q)) F h ids[q] hx2 (putAll_vals fun x hx=>HI.out x (List.mem_of_mem_take hx)) (by omega));obtain⟨x,hx⟩ : ∃x,x=ids[q]:=⟨_,rfl⟩;rw [←hx] at d0 HPut HSn;clear hc hx hx2 hle hB;go_wp2_with fail;refine(HPut.out _ HA.out).mono ?_;rintro e w3 ⟨t,F',rfl,hA3,hT3,hG3⟩
   have N3:Hid (AgAt w3 ga gm (putW (putAll (ids.take q)) x) F'∧(∀x,F' x→w.heap.size≤x)∧Below w.heap.size w w3):=LH ⟨hA3,fun y hy=>by
    rcases hG3 y hy with h|h
    ·exact HF.out y h
    ·exact Nat.le_trans HB.out.size h,HB.out.trans (hT3.below HF.out HB.out.size)⟩
   clear hA3 hT3 hG3;go_wp2_with fail;go_roundw
   case rel=>exact⟨q+1,F',by omega,by go_num,by rw [HSn.out];exact N3.out.1,N3.out.2.1,N3.out.2.2⟩
   case measure=>simp [intOf];omega
  ·obtain rfl:q=ids.length:=by omega
   have hqi:decide ((ids.length:Int) < (ids.length:Int)) =false:=by simp
   rw [List.take_length] at HA;go_wp2_with fail;go_ret;exact⟨ga,gm,F,rfl,HA.out,HF.out,HB.out⟩
end
section
variable {α:Type} {P:Program} {t e:TypeId} {size bytes:Nat} {z:Value} {F:Fence} {n:Nat}
theorem wpListIn_app {w:World} {ops:Array Oper} {rest:List Oper} {o:Oper} {a:Act} {Q:Exit→Act→World→Prop} (T:SliceTy P t e size bytes z) (hgd:o.guard=none) (s x:Operand)
 (ho:o.op=.call {callee:=.builtin .append,args:= #[s,x],argTypes:= #[t,t]}) (E:Enc α size) (base:Nat) (v:Value) (l:List α) (hs:a.eval s=v) (hown:Own w base e E v l)
 (A:Option Addr) (c:Nat) (l2:List α) (B:Nat) (hx:a.eval x=.slice A l2.length c) (hsrc:Sl w B E A l2) (hn: (l.length+l2.length) *bytes≤140737488355328) (hm:l.length+l2.length≤maxLen) (hbase:base≤w.heap.size)
 (h: ∀v' w',Own w' base e E v' (l ++ l2)→w.grownBy w' v.ownBlock→(v'.ownBlock=v.ownBlock∨v'.ownBlock=some w.heap.size)→Below base w w'→(l2≠ []→v'≠.slice none 0 0)→
   wpListIn F n P ops Q rest (a.put o.dst v') w') :wpListIn F n P ops Q (o :: rest) a w:=by
 refine wpListIn_plain hgd fun K hK=> ?_;obtain⟨v',w',hr,h2,h3,h4,h5⟩:=app_run T o.type w base v l hown A c l2 B hsrc hn hm hbase;unfold Oper.wpIn;refine⟨?_,?_⟩
 ·simp [Oper.about,ho,resolve,Target.leads,Sem.run_pure]
 ·rw [Oper.semAt_plain F _ _ (by rw [ho];intro c hc';cases hc')]
  simp only [execOp,ho,resolve,invoke,builtin,Sem.run_bind,Sem.run_pure,Result.andThen_ok,List.map_toArray,List.map_cons,List.map_nil,hs,hx,hr];exact hK _ _ (h v' w' h2 h3 h4 ((Below.refl base w).grown h3 hbase fun k hk=>(hown.lt k hk).1) h5)
theorem wpListIn_push {w:World} {ops:Array Oper} {rest:List Oper} {o:Oper} {a:Act} {Q:Exit→Act→World→Prop} (T:SliceTy P t e size bytes z) (hgd:o.guard=none) (s x:Operand)
 (ho:o.op=.call {callee:=.builtin .append,args:= #[s,x],argTypes:= #[t,t]}) (E:Enc α size) (W:World) (base:Nat) (v:Value) (l:List α) (hs:a.eval s=v) (hown:Own W base e E v l)
 (x0:α) (hx:a.eval x=.slice (some ⟨W.heap.size,0,none⟩) 1 1) (hw:w=W.alloc (.cells (E.enc x0).toArray e)) (hn: (l.length+1) *bytes≤140737488355328) (hm:l.length+1≤maxLen) (hbase:base≤W.heap.size)
 (h: ∀v' w',Own w' base e E v' (l ++ [x0])→W.grownBy w' v.ownBlock→W.heap.size<w'.heap.size→(v'.ownBlock=v.ownBlock∨v'.ownBlock=some (W.heap.size+1))→Below base W w'→v'≠.slice none 0 0→
   wpListIn F n P ops Q rest (a.put o.dst v') w') :wpListIn F n P ops Q (o :: rest) a w:=by
 subst hw;have hsl:=sl_lit W E [x0] e _ rfl;simp only [List.flatMap_cons,List.flatMap_nil,List.append_nil] at hsl;refine wpListIn_app T hgd s x ho E base v l hs (hown.alloc _) (some ⟨W.heap.size,0,none⟩) 1 [x0] _ (by simpa using hx) hsl (by simpa using hn) (by simpa using hm) (by simp;omega) fun v' w' h2 h3 h4 h5 h6=> ?_;have hs:=h3.size;simp at hs
 refine h v' w' h2 ⟨h3.os,h3.tape,h3.output,by omega,fun i hi hne=>(h3.block i (by simp;omega) hne).trans (Below.heap_alloc W _ i hi)⟩ (by omega) ?_ ?_ (h6 (by simp))
 ·rcases h4 with h4|h4
  ·exact .inl h4
  ·right;rw [h4];simp
 ·exact((Below.refl base W).alloc hbase _).trans h5
end
def KeepX (z:Nat) (X:Nat→Prop) (A B:World) :Prop:=A.heap.size≤B.heap.size∧∀(b:Nat) (cs:Array Value) (t:TypeId) (fr:Nat×Nat),b<z→¬X b→A.heap[b]? =some (.cells cs t fr)→B.heap[b]? =some (.cells cs t fr)
section
variable {z:Nat} {X:Nat→Prop} {A B C:World}
theorem keepX_t (h:KeepX z X A B) (k:KeepX z X B C) :KeepX z X A C:=⟨Nat.le_trans h.1 k.1,fun b cs t fr hz hx hb=>k.2 b cs t fr hz hx (h.2 b cs t fr hz hx hb)⟩
theorem keepX_b (W:World) (l:Nat) (o o':Obj) (h:W.heap[l]? =some o) (hc:o.isCells=false) :KeepX z X W (W.putObj l o'):=by
 refine⟨(grownBy_putObj' W l o').size,fun b cs t fr _ _ hb=> ?_⟩
 have hne:b≠l:=by
  rintro rfl;rw [h] at hb
  cases hb
  simp [Obj.isCells] at hc
 rw [World.putObj_heap_other hne];exact hb
theorem KeepX.refl (W:World) :KeepX z X W W:=⟨Nat.le_refl _,fun _ _ _ _ _ _ h=>h⟩
theorem KeepX.of_below (h:Below A.heap.size A B) :KeepX z X A B:=⟨h.size,fun b cs t fr _ _ hb=>(h.block b (lB hb)).trans hb⟩
theorem KeepX.set (h:KeepX z X A B) {p:Addr} (hp:X p.block∨z≤p.block) (u:Value) :KeepX z X A (B.setCell p u):=
 keepX_t h ⟨by simp [World.setCell],fun b cs t fr hz hx hb=>by
  rw [Below.heap_setCell _ _ _ _ (by
   rintro rfl;rcases hp with hp|hp
   ·exact hx hp
   ·omega)]
  exact hb⟩
theorem KeepX.cell (h:KeepX z X A B) {b o:Nat} {v:Value} (hz:b<z) (hx: ¬X b) (hc:A.cell? ⟨b,o,none⟩ =some v) :B.cell? ⟨b,o,none⟩ =some v:=by
 obtain⟨ob,h1,h2⟩:=cells_of_cell hc
 cases ob with
 |cells cs t fr=>exact(World.cell?_of_block ((h.2 b cs t fr hz hx h1).trans h1.symm)).trans hc
 |_=>simp [Obj.isCells] at h2
theorem row_grown {row:Option Nat} {b:Nat} {cs:Array Value} {t:TypeId} {fr:Nat×Nat} (h:A.heap[b]? =some (.cells cs t fr)) (hg:A.grownBy B row) (hr: ∀r,row=some r→∃o:Obj,A.heap[r]? =some o∧o.isCells=false) :B.heap[b]? =some (.cells cs t fr):=
 (grownBy_keeps_cells hg hr h rfl).trans h
theorem own_grown {α:Type} {size base e:Nat} {E:Enc α size} {v:Value} {l:List α} {row:Option Nat} (h:Own A base e E v l) (hg:A.grownBy B row) (hr: ∀r,row=some r→∃o:Obj,A.heap[r]? =some o∧o.isCells=false) :Own B base e E v l:=
 h.of_block fun g hv=>by
  rcases h with ⟨rfl,_⟩ | ⟨g1,o1,c1,u1,rfl,_,hh1,_⟩
  ·cases hv
  ·have:g1=g:=by simpa [Value.ownBlock] using hv
   subst this;exact grownBy_keeps_cells hg hr hh1 rfl
end
def SlX (w:World) (z:Nat) (X:Nat→Prop) (A:Option Addr) (es:List Int) :Prop:=es= []∨∃b off,A=some ⟨b,off,none⟩∧b<z∧¬X b∧∀i x,es[i]? =some x→w.cell? ⟨b,off+i,none⟩ =some (.int .i64 x)
theorem SlX.keep {w w':World} {z:Nat} {X:Nat→Prop} {A:Option Addr} {es:List Int} (h:SlX w z X A es) (k:KeepX z X w w') :SlX w' z X A es:=by
 rcases h with h| ⟨b,off,rfl,hz,hx,hc⟩
 ·exact .inl h
 ·exact .inr ⟨b,off,rfl,hz,hx,fun i x hi=>k.cell hz hx (hc i x hi)⟩
theorem SlX.below {w w':World} {z:Nat} {X:Nat→Prop} {A:Option Addr} {es:List Int} (h:SlX w z X A es) (hb:Below z w w') :SlX w' z X A es:=by
 rcases h with h| ⟨b,off,rfl,hz,hx,hc⟩
 ·exact .inl h
 ·exact .inr ⟨b,off,rfl,hz,hx,fun i x hi=>(hb.cell (p:=⟨b,off+i,none⟩) hz).trans (hc i x hi)⟩
theorem SlX.at_ {w:World} {z:Nat} {X:Nat→Prop} {A:Option Addr} {es:List Int} (h:SlX w z X A es) {i:Nat} (hi:i<es.length) : ∃b off,A=some ⟨b,off,none⟩∧b<z∧w.cell? ⟨b,off+i,none⟩ =some (.int .i64 es[i]):=by
 rcases h with h| ⟨b,off,rfl,hz,hx,hc⟩
 ·subst h;simp at hi
 ·exact⟨b,off,rfl,hz,hc i _ (List.getElem?_eq_getElem hi)⟩
section
attribute [local go_sem] Oper.semAt_some
theorem AgAt.mapb {w:World} {a b:Nat} {L:List Int} {F:Nat→Prop} (h:AgAt w a b L F) : (∃es clock,w.heap[b]? =some (.map es clock))∧F b∧b<w.heap.size:=by
 obtain⟨D,⟨v,h1,h2,h3,rfl⟩,_⟩:=h;have hl:=h3.lt;obtain⟨es,clock,hb,_⟩:=h3;exact⟨⟨es,clock,hb⟩,.inr (.inr rfl),hl⟩
theorem AgAt.ty {w:World} {a b:Nat} {L:List Int} {F:Nat→Prop} (h:AgAt w a b L F) {x:Nat} (hx:F x) :x=b∨TypeAt w x 346∨TypeAt w x 3:=by
 obtain⟨D,⟨v,h1,h2,h3,rfl⟩,_⟩:=h;rcases hx with rfl|hx|rfl
 ·exact .inr (.inl (.of h1))
 ·rcases h2 with ⟨rfl,_⟩ | ⟨g1,o1,c1,u1,rfl,_,hh1,_⟩
  ·cases hx
  ·cases hx;exact .inr (.inr (.of hh1))
 ·exact .inl rfl
theorem AgAt.not_type {w:World} {a b:Nat} {L:List Int} {F:Nat→Prop} (h:AgAt w a b L F) {x t:Nat} {cs:Array Value} {fr:Nat×Nat} (hx:w.heap[x]? =some (.cells cs t fr)) (h1:t≠346) (h2:t≠3) : ¬F x:=fun hf=>by
 rcases h.ty hf with rfl|ht|ht
 ·obtain⟨⟨es,clock,hm⟩,_⟩:=h.mapb
  rw [hx] at hm;cases hm
 ·exact h1 (typeAt_eq (.of hx) ht)
 ·exact h2 (typeAt_eq (.of hx) ht)
theorem AgAt.not_cells {w:World} {a b:Nat} {L:List Int} {F:Nat→Prop} (h:AgAt w a b L F) {x:Nat} {o:Obj} (hx:w.heap[x]? =some o) (ho:o.isCells=false) (hb:x≠b) : ¬F x:=fun hf=>by
 rcases h.ty hf with e| ⟨cs,fr,ht⟩ | ⟨cs,fr,ht⟩
 ·exact hb e
 ·rw [hx] at ht;cases ht;cases ho
 ·rw [hx] at ht;cases ht;cases ho
theorem AgAt.grown {w w':World} {a b:Nat} {L:List Int} {F:Nat→Prop} (h:AgAt w a b L F) {row:Option Nat} (hg:w.grownBy w' row) (hr: ∀r,row=some r→r≠b∧∃o:Obj,w.heap[r]? =some o∧o.isCells=false) :AgAt w' a b L F:=
 h.keep fun x hx=>hg.block x (h.lt x hx) fun e=>by
  obtain⟨hb,o,ho,hc⟩:=hr x e.symm;exact h.not_cells ho hc hb hx
theorem AgAt.turnN {w w':World} {a b:Nat} {L:List Int} {F:Nat→Prop} (h:AgAt w a b L F) (ht:Turn F w w') :KeepN w w':=
 ⟨ht.size,fun x cs fr hx=>ht.keep hx (h.not_type hx (by decide) (by decide))⟩
theorem AgAt.turnFrom {w w':World} {a b B:Nat} {L:List Int} {F:Nat→Prop} (h:AgAt w a b L F) (ht:Turn F w w') (hb:b<B) :KeepsFrom B w w':=
 ⟨ht.size,fun x o hB hx ho=>ht.keep hx (h.not_cells hx ho (by omega))⟩
theorem attach_take (r:List Nd) :r.attach.take r.length=r.attach:=by have:=List.take_length (l:=r.attach);rwa [List.length_attach] at this
theorem each_in (n Bs g K l:Nat) (r:List Nd) (F0:Nat→Prop) (w:World) (hn:1≤n) (hBs:w.heap[Bs]? =some (.cells #[.pointer (some ⟨g,0,none⟩)] 114 (0,0))) (hP:PoolAt w g K l r F0) (hr:r.length≤67108864) :
 SeqStopsK Fence.wide n Tryz.prog 269 #[.pointer (some ⟨Bs,0,none⟩)] (fun x: {x:Nd // x∈r}=> #[Value.int .i64 x.1.1,Value.int .i64 x.1.2]) KeepN (fun ys=>ys=r.attach) (fun pre=>pre <+: r.attach) r.length w:=fun q J Jx W hW hJ hJx hY h0=>by
 have kb:=bB hBs hW;have HP:=LH (hP.below hW);have cb:=bC kb;have HY:=LH hY;have HJ:=LH hJ;clear kb hBs hP hY hJ;refine callsIn_of_wp Tryz.func269 rfl trivial ?_ rfl;simp only [Tryz.ntmps269,List.size_toArray,List.length_cons,List.length_nil,Nat.reduceAdd,Nat.reduceSub,Array.replicate_succ,Array.replicate_zero,List.push_toArray,List.append_toArray,List.nil_append,List.cons_append]
 gi_wp2_with fail
 refine⟨trivial,?_⟩;refine(callsIn_wide.2 (pool_Snap _ g K l r F0 HP.out hr)).mono ?_;rintro e w1 ⟨v,rfl,ho,hb⟩;have HO:=LH ho;have J0:Hid (J [] w1):=LH (HJ.out _ _ _ none h0 (grownBy_of_below hb none) (fun _ h=>by cases h));have hs:=hb.size;obtain⟨A,cap,rfl,_⟩:=ho.form;clear ho hb h0
 gi_wp2_with fail
 gi_loopw [8] (fun i wr=>∃k:Nat,k≤r.length∧i=.int .i64 k∧Own wr W.heap.size 172 encN (.slice A r.length cap) r∧J (r.attach.take k) wr∧W.heap.size≤wr.heap.size) (fun i _=>r.length - (intOf i).toNat)
 case atStart=>exact⟨0,Nat.zero_le _,rfl,HO.out,J0.out,hs⟩
 case round=>
  obtain⟨k,hk,rfl,hown,hJk,hsz⟩:=hrel;have KO:=LH hown;have KJ:=LH hJk;clear hown hJk;by_cases hlt:k<r.length
  ·obtain⟨b,off,rfl,hT,hc⟩:=KO.out.slT.at_ hlt
   have d0:=hc 0 (.int .i64 r[k].1) rfl;have d1:=hc 1 (.int .i64 r[k].2) rfl;simp only [Nat.add_zero] at d0;have hlt':k<r.attach.length:=by rw [List.length_attach];exact hlt
   have hts:=List.take_succ_eq_append_getElem hlt';obtain⟨x,hx⟩ : ∃x,x=r[k]:=⟨_,rfl⟩;obtain⟨y,hy0⟩ : ∃y,y=r.attach[k]:=⟨_,rfl⟩;have hyx:y.1=x:=by rw [hy0,hx,List.getElem_attach]
   rw [←hx] at d0 d1;rw [←hy0] at hts;have HS:=LH hts;have hA:Below wr.heap.size wr (wr.alloc (.cells #[.int .i64 x.1,.int .i64 x.2] 172)):=(Below.refl _ _).alloc (Nat.le_refl _) _;have hJ2:=HJ.out _ _ _ none KJ.out (grownBy_of_below hA none) (fun _ h=>by cases h);obtain⟨fn,tmps,assign,body,hy,hR⟩:=HY.out (r.attach.take k) y _ hJ2 (by rw [List.length_take];omega);have KA:=LH (KO.out.below hA);rw [hyx] at hy;clear hc hts hx hJ2 hA hT hy0 hlt' hyx
   gi_wp2_with fail
   refine hR.mono ?_;rintro e w3 (⟨rfl,hJ3,hk3⟩ | ⟨rfl,hJx3⟩)
   ·have K3:=LH (hk3.own KA.out)
    have z3:=hk3.1;rw [←HS.out] at hJ3;have J3:=LH hJ3;clear hJ3 hk3
    gi_wp2_with fail
    go_roundw
    case rel=>exact⟨k+1,by omega,by go_num,K3.out,J3.out,by simp at z3;omega⟩
    case measure=>simp [intOf];omega
   ·rw [←HS.out] at hJx3
    have J3:=LH hJx3;clear hJx3
    gi_wp2_with fail
    refine bR (results_none rfl _ _ _) rfl ?_;exact⟨⟨_,rfl⟩,.inr ⟨_,List.take_prefix _ _,J3.out⟩⟩
  ·obtain rfl:k=r.length:=by omega
   rw [attach_take] at KJ
   gi_wp2_with fail
   go_end0
   exact⟨⟨_,rfl⟩,.inl ⟨_,rfl,KJ.out⟩⟩
def sliceLen:Value→Nat
 | .slice _ n _=>n
 |_=>0
theorem Drain.len {P O L:List Int} {x:Int} (h:O.length+ (x :: L).length=P.length) : (O ++ [x]).length+ (popH (x :: L)).length=P.length:=by
 rw [(popH_perm x L).length_eq];simp only [List.length_append,List.length_cons,List.length_nil] at h⊢;omega
def halves (r:List Nd) :List Int:=r.map fun x=>x.1 / 2
theorem halves_snoc (r:List Nd) (x:Nd) :putAll (halves (r ++ [x])) =putW (putAll (halves r)) (x.1 / 2):=by
 unfold halves putAll;rw [List.map_append,List.foldl_append];rfl
structure Drain (P:List Int) (O L:List Int) :Prop where
 wait:WaitL L
 up:O.Pairwise leA
 ahead: ∀o∈O,∀y∈L,leA o y
 mem: ∀z,z∈P↔z∈O∨z∈L
theorem Drain.start {P:List Int} (h:WaitL P) :Drain P [] P:=⟨h,.nil,by simp,by simp⟩
theorem Drain.step {P O L:List Int} {x:Int} (h:Drain P O (x :: L)) :Drain P (O ++ [x]) (popH (x :: L)):=by
 have hp:=popH_perm x L;refine⟨h.wait.pop,?_,?_,fun z=> ?_⟩
 ·rw [List.pairwise_append]
  exact⟨h.up,List.pairwise_singleton _ _,fun o ho y hy=>by rw [List.mem_singleton.1 hy];exact h.ahead o ho x (by simp)⟩
 ·intro o ho y hy
  have hy:=hp.mem_iff.1 hy;rcases List.mem_append.1 ho with ho|ho
  ·exact h.ahead o ho y (List.mem_cons_of_mem _ hy)
  ·rw [List.mem_singleton.1 ho];exact heap_head h.wait.heap y (List.mem_cons_of_mem _ hy)
 ·rw [h.mem,List.mem_append,List.mem_singleton,List.mem_cons,hp.mem_iff]
  constructor
  ·rintro(h|h|h)
   ·exact .inl (.inl h)
   ·exact .inl (.inr h)
   ·exact .inr h
  ·rintro((h|h) |h)
   ·exact .inl h
   ·exact .inr (.inl h)
   ·exact .inr (.inr h)
structure ParI (w:World) (ga gm pc:Nat) (pre:List Nd) (W:World) :Prop where
 p:W.heap[pc]? =some (.cells #[.pointer (some ⟨ga,0,none⟩)] 309 (0,0))
 a: ∃F,AgAt W ga gm (putAll (halves pre)) F∧∀x,F x→w.heap.size≤x
theorem fold_Parents (w:World) (g K l:Nat) (r:List Nd) (F:Nat→Prop) (hP:PoolAt w g K l r F) (hr:r.length≤67108864) :
 Calls Tryz.prog 254 #[.pointer (some ⟨g,0,none⟩)] w fun e w'=>∃(v:Value) (O:List Int),e=.returned v∧Own w' w.heap.size 3 encZ v O∧Drain (putAll (halves r)) O []∧O.length≤67108864∧Below w.heap.size w w':=by
 have hroll:=hP.fits.roll
 have hP2: ∀x∈r,1≤x.1∧x.1≤1000000000000000:=fun x hx=>by
  have h1:=isNode_lt (hP.fits.nodes hP.l_le x hx);have h2:=pow_48 hP.l_le.2;omega
 have hPv: ∀(pre:List {x:Nd // x∈r}) (y:Int),y∈halves (pre.map (·.1))→y≤9223372036854775807:=fun pre y hy=>by
  unfold halves at hy;obtain⟨z,hz,rfl⟩:=List.mem_map.1 hy;obtain⟨u,hu,rfl⟩:=List.mem_map.1 hz;have:=hP2 u.1 u.2;omega
 have HP:=LH hP;clear hP;refine(callsIn_wide (n:=3)).1 ?_;refine callsIn_of_wp_marks Tryz.func254 rfl trivial ?_ rfl;simp only [Tryz.ntmps254,List.size_toArray,List.length_cons,List.length_nil,Nat.reduceAdd,Nat.reduceSub,Array.replicate_succ,Array.replicate_zero,List.push_toArray,List.append_toArray,List.nil_append,List.cons_append]
 gi_wp2_with fail
 refine⟨trivial,?_⟩;refine(callsIn_wide.2 (fold_New _ none 0 [] .nil (by simp) (by simp))).mono ?_;rintro e w1 ⟨ga,gm,FA,rfl,hA,hFA,hb1⟩;have A1:=LH hA;have F1:=LH hFA;have B1:=LH hb1;clear hA hFA hb1
 gi_wp2_with fail
 refine⟨trivial,?_⟩;refine(callsIn_wide.2 (pool_Each _ g)).mono ?_;rintro e w4 ⟨rfl,rfl⟩
 gi_wp2_with fail
 have al:=fun (W:World) (o:Obj)=>(Below.refl W.heap.size W).alloc (Nat.le_refl _) o;have hb0:=(al w1 (.cells #[.pointer (some ⟨ga,0,none⟩)] 309)).trans ((al (w1.alloc (.cells #[.pointer (some ⟨ga,0,none⟩)] 309)) (.cells #[.pointer (some ⟨g,0,none⟩)] 114)).mono (by simp));have BW0:=LH (Below.then_ B1.out hb0);have kp:=(heap_new_lt (w1.alloc (.cells #[.pointer (some ⟨ga,0,none⟩)] 309)) (.cells #[.pointer (some ⟨g,0,none⟩)] 114) w1.heap.size (by simp)).trans (heap_alloc_new w1 (.cells #[.pointer (some ⟨ga,0,none⟩)] 309));have kb:=heap_new_at (w1.alloc (.cells #[.pointer (some ⟨ga,0,none⟩)] 309)) (.cells #[.pointer (some ⟨g,0,none⟩)] 114) (w1.heap.size+1) (by simp);have A0:=LH (A1.out.below hb0);have hgm:=A1.out.mapb.2.2;have hgm0:=F1.out gm A1.out.mapb.2.1;generalize (w1.alloc (.cells #[.pointer (some ⟨ga,0,none⟩)] 309)).alloc (.cells #[.pointer (some ⟨g,0,none⟩)] 114) =W0 at hb0 BW0 kp kb A0⊢;have zs0:=hb0.size;have zs1:=B1.out.size;have zsW:=BW0.out.size;have hpw:w.heap.size≤w1.heap.size:=zs1;have KP0:=LH kp;clear al hb0
 refine wpIn_rangeFunc_ownG rfl (by decide) (gf:=269) (lb:= #[.pointer (some ⟨w1.heap.size+1,0,none⟩)]) rfl trivial (enters_of Tryz.func269 (by kernel_rfl) rfl)
  (each_in (3 - 1) (w1.heap.size+1) g K l r F W0 (by decide) kb (HP.out.below BW0.out) hr) keepN_t (fun W q o o' _ h hc _=>keepN_b W q o o' h hc) (Below.refl _ _) (fun _=>rfl)
  (fun pre W=>ParI w ga gm w1.heap.size (pre.map (·.1)) W∧Below w.heap.size w W)
  (fun _ _ _=>False)
  (OwnFrom.and (fun s A B row hs hg hr=>⟨row_grown hs.p hg (fun q e=>(hr q e).2),by
    obtain⟨F',h1,h2⟩:=hs.a;exact⟨F',h1.grown hg (fun q e=>⟨by have:=(hr q e).1;omega,(hr q e).2⟩),h2⟩⟩) (ownFrom_below (Nat.le_refl _) zsW))
  (fun c=>fun _ _ _ _ hs _ _=>hs)
  ⟨⟨KP0.out,_,A0.out,F1.out⟩,BW0.out⟩
  (fun x=>{tmps:= #[.pointer (some ⟨g,0,none⟩),undef,.slice none 0 0,.pointer (some ⟨w1.heap.size,0,none⟩),.int .i64 x.1.1,undef,undef,undef,.pointer (some ⟨ga,0,none⟩),.pointer (some ⟨g,0,none⟩),.func (.func 269) #[] #[.pointer (some ⟨w1.heap.size+1,0,none⟩)],.int .i64 x.1.1,.int .i64 x.1.2,undef,undef,undef,undef,undef,undef,undef,undef,undef,undef,undef,undef,undef,undef,undef,undef,undef],defers:= []}) ?assign ?body ?done ?stop
 case assign=>
  intro q x W Kc hK
  gi_wp2
  exact hK
 case body=>
  rintro q pre x W ⟨⟨hp,F',hA,hF⟩,hB⟩ hlen;have HA:=LH hA;have HF:=LH hF;have HB:=LH hB;have HPc:=LH hp;have cp:=bC hp;have zp:=lB hp;have hx:=hP2 x.1 x.2
  have hlen2: (putAll (halves (pre.map (·.1)))).length≤r.length:=by
   have h1:=putAll_len (halves (pre.map (·.1)));have h2: (halves (pre.map (·.1))).length=pre.length:=by simp [halves]
   omega
  have hsn:=halves_snoc (pre.map (·.1)) x.1;have HSn:=LH hsn;have HPut:=LH (fun W h=>ag_Put W ga gm (putAll (halves (pre.map (·.1)))) F' h (x.1.1 / 2) (by omega) (putAll_vals fun y hy=>hPv pre y hy) (by omega));obtain⟨⟨x1,x2⟩,hxm⟩:=x;simp only at hx HPut HSn;clear hA hF hB hp hlen2 hsn
  gi_wp2_with fail
  refine⟨trivial,?_⟩;refine(CallsIn.inRound q (callsIn_wide.2 (HPut.out _ HA.out))).mono ?_;rintro e w5 ⟨t,F5,rfl,hA5,hT5,hG5⟩;have KW:Hid (KeepsFrom W0.heap.size W w5):=LH (HA.out.turnFrom hT5 (by omega));have KN:=LH (HA.out.turnN hT5);have KP5:=LH (hT5.keep HPc.out (HA.out.not_type HPc.out (by decide) (by decide)));have BB5:=LH (HB.out.trans (hT5.below HF.out HB.out.size));have KA5:=LH hA5
  have KF5:Hid (∀y,F5 y→w.heap.size≤y):=LH fun y hy=>by
   rcases hG5 y hy with h|h
   ·exact HF.out y h
   ·exact Nat.le_trans HB.out.size h
  clear hA5 hT5 hG5 cp
  gi_wp2_with fail
  exact⟨KW.out,KN.out,⟨KP5.out,F5,by rw [List.map_append];exact HSn.out ▸ KA5.out,KF5.out⟩,BB5.out⟩
 case done=>
  rintro D ys W hD hys ⟨⟨hp,F',hA,hF⟩,hB⟩ hK;have hys':ys=r.attach:=hys;rw [hys',List.attach_map_subtype_val] at hA;clear hys hys';have HA:=LH hA;have HF:=LH hF;have HB:=LH hB;have HPc:=LH hp;have cp:=bC hp;have zp:=lB hp;have HK:=LH hK;have zD:D<W.heap.size:=lB hK;have hDm:D≠gm:=by omega
  have hFW:=hA.lt;have HFW:=LH hFW;have hDF: ¬F' D:=hA.not_cells hK rfl hDm;have HDF:=LH hDF;have hpF: ¬F' w1.heap.size:=hA.not_type hp (by decide) (by decide);have HPF:=LH hpF;have hwW:=hB.size;have hPl:=putAll_len (halves r);have hPl2: (halves r).length=r.length:=by simp [halves]
  have hPV: ∀y∈putAll (halves r),1≤y∧y≤9223372036854775807:=putAll_vals fun y hy=>hPv r.attach y (by rw [List.attach_map_subtype_val];exact hy);have HPV:=LH hPV;have hdr:=Drain.start (putAll_wait (halves r));have HDr:=LH hdr;obtain⟨P,hPe⟩ : ∃P,P=putAll (halves r):=⟨_,rfl⟩;have HPe:=LH hPe;rw [←hPe] at HA HPV HDr hPl;have hPl3:P.length≤67108864:=by omega
  clear hA hF hB hp hK hFW hDF hpF hPV hdr hPe hPl hPl2
  gi_wp2_with fail
  gi_loopw [5,6,7] (fun v _ _ wr=>∃(O L:List Int),Own wr W.heap.size 3 encZ v O∧Drain P O L∧O.length+L.length=P.length∧AgAt wr ga gm L F'∧wr.heap[w1.heap.size]? =some (.cells #[.pointer (some ⟨ga,0,none⟩)] 309 (0,0))∧wr.heap[D]? =some (.deferred (some []))∧W.heap.size≤wr.heap.size∧Below w.heap.size w wr) (fun v _ _ _=>P.length - sliceLen v)
  case atStart=>exact⟨[],P,.nil _ _ _ _,HDr.out,by simp,HA.out,HPc.out,HK.out,Nat.le_refl _,HB.out⟩
  case round=>
   obtain⟨O,L,hO,hDr,hln,hA,hpc,hK,hsz,hB⟩:=hrel;have KO:=LH hO;have KD:=LH hDr;have KA:=LH hA;have KP:=LH hpc;have KK:=LH hK;have KB:=LH hB;have cp:=bC hpc;have zp:=lB hpc;obtain⟨Ao,co,rfl,_⟩:=hO.form;obtain⟨Dm,hAS,_⟩:=hA;have HLn:=LH (ag_Len _ ga gm _ L Dm F' hAS);clear hO hDr hpc hK hAS HA HPc HK HB HDr
   gi_wp2_with fail
   refine⟨trivial,?_⟩;refine(callsIn_wide.2 HLn.out).mono ?_;rintro e w5 ⟨rfl,hb5⟩;have s5:=hb5.size;have KO5:=LH (KO.out.below hb5);have KA5:=LH (KA.out.below hb5);have KP5:=LH (bB KP.out hb5);have KK5:=LH ((hb5.block D (by omega)).trans KK.out);have KB5:=LH (Below.then_ KB.out hb5);clear hb5 hB cp zp HLn
   cases L with
   |nil=>
    simp only [List.length_nil];have hres:Hid (Drain (putAll (halves r)) O []):=LH (HPe.out ▸ KD.out)
    gi_wp2_with fail
    have hK5:=KK5.out;refine⟨by simp,.inl ⟨_,_,rfl,run_takeDeferred hK5,?_⟩⟩;have ho2:=(own_grown KO5.out (grownBy_putObj' w5 D (.deferred none)) (fun r e=>by cases e;exact⟨_,hK5,rfl⟩)).base_le (b:=w.heap.size) hwW;exact⟨.slice Ao O.length co,by simp [results,Tryz.f254,go_sem],.slice Ao O.length co,O,rfl,ho2,hres.out,by simp only [List.length_nil] at hln;omega,KB5.out.trans (belowK_b (w:=w) (Nat.le_refl _) w5 D _ _ (by omega) hK5 rfl rfl)⟩
   |cons x L=>
    have hxL:x∉L:=(List.nodup_cons.1 KD.out.wait.once).1;have hpv: ∀y∈x :: L,1≤y∧y≤9223372036854775807:=fun y hy=>HPV.out y ((KD.out.mem y).2 (.inr hy));have hlL:L.length≤67108864:=by simp only [List.length_cons] at hln;omega
    have HPop:=LH (fun W h=>ag_Pop W ga gm x L F' h hxL hpv (by omega));have HDs:=LH KD.out.step;have HLn:=LH (Drain.len hln);have hOl:O.length≤67108864:=by simp only [List.length_cons] at hln;omega
    have hl1: (x :: L).length=L.length+1:=by simp
    have cp:=bC KP5.out;have zp:=lB KP5.out;have hmes:O.length<P.length:=by simp only [List.length_cons] at hln;omega
    rw [hl1];clear hxL hpv KD hl1 hln
    gi_wp2_with fail
    refine⟨trivial,?_⟩;refine(callsIn_wide.2 (HPop.out _ KA5.out)).mono ?_;rintro e w6 ⟨rfl,hA6,hT6⟩;have s6:=hT6.size;have KA6:=LH hA6;have KO6:=LH (hT6.own KO5.out (fun b hb hf=>by have:=(KO5.out.lt b hb).1;have:=HFW.out b hf;omega));have KP6:=LH (hT6.keep KP5.out HPF.out);have KK6:=LH (hT6.keep KK5.out HDF.out);have KB6:=LH (KB5.out.trans (hT6.below HF.out KB5.out.size));clear hA6 hT6 cp zp KA5 KO5 KP5 KK5 KB5
    gi_wp2_with ((gi_at_builtin;refine wpListIn_push tyZ rfl _ _ rfl encZ w6 W.heap.size (.slice Ao O.length co) O rfl KO6.out x (by go_simp) rfl ?a1 ?a2 ?a3 ?a4))
    case a1=>omega
    case a2=>simp only [maxLen];omega
    case a3=>omega
    case a4=>
     intro v7 w7 ho7 hg7 _ _ hb7 _;have KO7:=LH ho7;have s7:=hg7.size;have hne: ∀b,b<W.heap.size→some b≠(Value.slice Ao O.length co).ownBlock:=fun b hb h=>by have:=(KO6.out.lt b h.symm).1;omega
     have KA7:=LH (KA6.out.keep fun b hb=>hg7.block b (by have:=HFW.out b hb;omega) (hne b (HFW.out b hb)));have KP7:=LH ((hg7.block w1.heap.size (by omega) (hne _ (by omega))).trans KP6.out);have KK7:=LH ((hg7.block D (by omega) (hne _ (by omega))).trans KK6.out);have KB7:=LH (KB6.out.trans (hb7.mono hwW))
     have h7:sliceLen v7=O.length+1:=by
      obtain⟨A7,c7,rfl,_⟩:=KO7.out.form;simp [sliceLen]
     clear ho7 hg7 hb7
     gi_wp2_with fail
     go_roundw
     case rel=>exact⟨O ++ [x],popH (x :: L),KO7.out,HDs.out,HLn.out,KA7.out,KP7.out,KK7.out,by omega,KB7.out⟩
     case measure=>rw [h7];simp only [sliceLen];omega
 case stop=>
  rintro D c pre W hD hpre h hK;exact h.elim
end
def FirstPost (l:Nat) (most:Int) (r:List Nd) (w:World) (e:Ending) (w':World) :Prop:=
 ∃(id:Int) (ok:Bool),e=.returned (.tuple #[.int .i64 id,.bool ok])∧(ok=true→FirstIs l most r id)∧(ok=false→∀p,readyR l r p most=false)∧Below w.heap.size w w'
section
variable {α:Type} [Inhabited α] {size:Nat}
theorem flatK_get (E:Enc α size) (l:List α) (j:Nat) (h:j<l.length*size) : (Go.Sort.flatK E.enc size l.toArray)[j]! = (l.flatMap E.enc)[j]! ∧(l.flatMap E.enc)[j]? =some (Go.Sort.flatK E.enc size l.toArray)[j]! :=by
 have hs:0<size:=Nat.pos_of_ne_zero (by rintro rfl;simp at h);have hk:j / size<l.length:=Nat.div_lt_of_lt_mul (by rwa [Nat.mul_comm] at h);have hq:j % size<size:=Nat.mod_lt _ hs;have e:=Go.Sort.get_flatK E.enc size l.toArray j (by simpa using h);have hx:l[j / size]? =some l[j / size]:=List.getElem?_eq_getElem hk
 have hu: (E.enc l[j / size])[j % size]? =some (E.enc l[j / size])[j % size]! :=by
  rw [getElem!_pos _ _ (by rw [E.len];exact hq)];exact List.getElem?_eq_getElem _
 have hj:j / size*size+j % size=j:=by rw [Nat.mul_comm];exact Nat.div_add_mod j size
 have:=flat_get E l (j / size) (j % size) _ _ hx hu;rw [hj] at this
 have e2:l.toArray[j / size]! =l[j / size]:=by
  rw [getElem!_pos _ _ (by simpa using hk)];simp
 rw [e2] at e;rw [e,this];exact⟨by rw [getElem!_pos _ j (List.getElem?_eq_some_iff.1 this).1];exact(List.getElem?_eq_some_iff.1 this).2.symm,rfl⟩
theorem Own.holdsK {w:World} {base e:Nat} {E:Enc α size} {g off cap:Nat} {l:List α} (h:Own w base e E (.slice (some ⟨g,off,none⟩) l.length cap) l) :Go.Sort.HoldsK E.enc size w g off l.toArray:=by
 intro j hj;have hj:j<l.length*size:=by simpa using hj
 rcases h with ⟨h,_⟩ | ⟨g',off',cap',cur,hv,hb,hh,h1,h2,h3,hc⟩
 ·cases h
 ·injection hv with hv _ _
  injection hv with hv
  injection hv with e1 e2
  subst e1 e2;have h4:=(flatK_get E l j hj).2;rw [bC hh,bF hh];exact⟨hc j _ h4,rfl⟩
theorem Own.sorted {w:World} {base e:Nat} {E:Enc α size} {g off cap:Nat} {l:List α} (h:Own w base e E (.slice (some ⟨g,off,none⟩) l.length cap) l) (d:Array α) (hd:d.size=l.length) (n:Nat) (os:Array Obj) :
 Own (Go.Proofs.sortWorldK E.enc size w g off n d os) base e E (.slice (some ⟨g,off,none⟩) l.length cap) d.toList∧Turn (fun b=>b=g) w (Go.Proofs.sortWorldK E.enc size w g off n d os):=by
 have hl:d.toList.length=l.length:=by simpa using hd
 rcases h with ⟨h,_⟩ | ⟨g',off',cap',cur,hv,hb,hh,h1,h2,h3,hc⟩
 ·cases h
 ·injection hv with hv _ hcap
  injection hv with hv
  injection hv with e1 e2
  subst e1 e2 hcap;have hlt:g<w.heap.size:=lB hh
  have hg: (Go.Proofs.sortWorldK E.enc size w g off n d os).heap[g]? =some (.cells (Go.Sort.putCells id off (Go.Sort.flatK E.enc size d) cur) e (0,0)):=by
   unfold Go.Proofs.sortWorldK;rw [Go.Sort.heap_grow_old _ _ (by simp [Go.Sort.putRowK];exact hlt)];simp [Go.Sort.putRowK,Go.Sort.putRow,Go.Sort.mapBlock,Array.getElem?_modify,Go.Sort.onCells,hh]
  refine⟨.inr ⟨g,off,cap,_,by rw [hl],hb,hg,by omega,h2,by simpa [Go.Sort.putCells] using h3,fun j u hj=> ?_⟩,⟨rfl,rfl,rfl,?_,fun b hlb hn=> ?_⟩⟩
  ·have hjl:j<d.toList.length*size:=by rw [←flat_len E];exact(List.getElem?_eq_some_iff.1 hj).1
   have h4:=(flatK_get E d.toList j hjl).2;rw [hj] at h4;have hle:l.length*size≤cap*size:=Nat.mul_le_mul_right _ h1;rw [hl] at hjl;have hcur:cur[off+j]? =some cur[off+j]:=Array.getElem?_eq_getElem (by omega);simp only [Go.Sort.putCells,Array.getElem?_mapIdx,hcur,Option.map_some];rw [if_pos ⟨by omega,by simp [hd];omega⟩,h4];simp
  ·unfold Go.Proofs.sortWorldK
   simp [Go.Sort.putRowK]
  ·unfold Go.Proofs.sortWorldK
   rw [Go.Sort.heap_grow_old _ _ (by simp [Go.Sort.putRowK];exact hlb)];simp only [Go.Sort.putRowK,Go.Sort.putRow,Go.Sort.mapBlock,Array.getElem?_modify];rw [if_neg (by intro h;exact hn h.symm)]
   rfl
theorem perm_of_in {d d':Array α} (h:Go.Sort.PermIn 0 d.size d d') :d'.toList.Perm d.toList:=by
 have e1: (d.extract 0 d.size).toList=d.toList:=by simp
 have e2: (d'.extract 0 d.size).toList=d'.toList:=by rw [←h.1];simp
 rw [←e1,←e2];exact h.2.2
theorem pairwise_of_in {lt:α→α→Bool} {d:Array α} {n:Nat} (hn:n=d.size) (h:Go.Sort.SortedIn lt 0 n d) :d.toList.Pairwise fun a b=>lt b a=false:=by
 rw [List.pairwise_iff_getElem];intro i j hi hj hij;have hj':j<d.size:=by simpa using hj
 have:=h i j (Nat.zero_le _) hij (by omega);rw [getElem!_pos d j hj',getElem!_pos d i (by omega)] at this
 simpa using this
def SortPost {w:World} (base e:Nat) (E:Enc α size) (v:Value) (lt:α→α→Bool) (l:List α) (w:World) (en:Ending) (w':World) :Prop:=
 en=.returned (.tuple #[])∧∃l':List α,l'.Perm l∧l'.Pairwise (fun a b=>lt b a=false)∧Own w' base e E v l'∧Turn (fun b=>v.ownBlock=some b) w w'
theorem sortFunc_own {P:Program} {ρ:Go.Shelf.Ren} (L:Go.Proofs.SlLaysF0.n6 P ρ) (E:Enc α size) (aE: ∀w,(isAgg (ρ.t 24)).run P w=.ok true w) (zE: ∀w,(Go.sizeOf (ρ.t 24)).run P w=.ok size w) (cf:α→α→Int) (hO:Go.Sort.SWO (Go.Proofs.ltOf cf))
 (g:Nat) (cb:Array Value) (eg: ∀args w,(callFunc g args).run P w=.ok (.enter g args) w) (w:World) (base e:Nat) (v:Value) (l:List α) (ho:Own w base e E v l) (hl:l.length<4611686018427387904)
 (hcmp: ∀W,Turn (fun b=>v.ownBlock=some b) w W→∀x y:α,Calls P g (#[.agg (E.enc x).toArray,.agg (E.enc y).toArray] ++ cb) W fun e W'=>e=.returned (.int .i64 (cf x y))∧∃q os',W'=Go.Sort.grow (W.drewN q) os') :
 Calls P (ρ.f 6) #[v,.func (.func g) #[] cb] w (SortPost (w:=w) base e E v (Go.Proofs.ltOf cf) l w):=by
 have ho':=ho;rcases ho' with ⟨rfl,rfl⟩ | ⟨b,off,cap,cur,rfl,hb,hh,h1,h2,h3,hc⟩
 ·refine(Go.Proofs.AnyF.slices_SortFunc_none L none 0 (.func (.func g) #[] cb) w).mono ?_
  rintro e' w' ⟨rfl,rfl⟩;exact⟨rfl, [],.refl _,.nil,ho,Turn.refl _ _⟩
 ·have hC:Go.Proofs.CmpLays P g cb E.enc size cf b off l.toArray.size w:=fun m os dk hs x y=>hcmp _ (((ho.sorted dk (by simpa using hs) m os).2).mono fun c _ h=>by subst h;rfl) x y
  refine(Go.Proofs.AnyQ.slices_SortFunc L size aE zE E.enc E.len E.one cf hO g cb b off cap l.toArray w eg hC ho.holdsK (lB hh) (by simpa using hl)).mono ?_;rintro e' w' ⟨rfl,d',n,os,hp,hs,rfl⟩;have hsz:d'.size=l.length:=by simpa using hp.1
  obtain⟨o1,o2⟩:=ho.sorted d' hsz n os;refine⟨rfl,d'.toList,by simpa using perm_of_in hp,pairwise_of_in (by simp [hsz]) hs,o1,o2.mono fun c _ h=>by subst h;rfl⟩
end
def wUp:List Nd→Int→Int
 | [],_=>0
 |y :: l,x=>(if y.1≤x then y.2 else 0) +wUp l x
theorem wUp_append (a b:List Nd) (x:Int) :wUp (a ++ b) x=wUp a x+wUp b x:=by
 induction a with
 |nil=>simp [wUp]
 |cons y a ih=>simp only [List.cons_append,wUp,ih];omega
theorem wUp_perm {a b:List Nd} (h:a.Perm b) (x:Int) :wUp a x=wUp b x:=by
 induction h with
 |nil=>rfl
 |cons y _ ih=>simp only [wUp,ih]
 |swap y z l=>simp only [wUp];omega
 |trans _ _ h1 h2=>exact h1.trans h2
theorem wUp_all {l:List Nd} {x:Int} (h: ∀y∈l,y.1≤x) :wUp l x=sumR l:=by
 induction l with
 |nil=>rfl
 |cons y l ih=>
  simp only [wUp,sumR];rw [if_pos (h y (by simp)),ih fun z hz=>h z (by simp [hz])]
theorem wUp_none {l:List Nd} {x:Int} (h: ∀y∈l,x<y.1) :wUp l x=0:=by
 induction l with
 |nil=>rfl
 |cons y l ih=>
  simp only [wUp];have:=h y (by simp);rw [if_neg (by omega),ih fun z hz=>h z (by simp [hz])];rfl
theorem wUp_same {l:List Nd} {x z:Int} (h: ∀y∈l,(y.1≤x↔y.1≤z)) :wUp l x=wUp l z:=by
 induction l with
 |nil=>rfl
 |cons y l ih=>
  simp only [wUp];have h1:=h y (by simp);rw [ih fun z hz=>h z (by simp [hz])]
  congr 1
  by_cases h2:y.1≤x
  ·rw [if_pos h2,if_pos (h1.1 h2)]
  ·rw [if_neg h2,if_neg (fun h=>h2 (h1.2 h))]
theorem sumR_perm {a b:List Nd} (h:a.Perm b) :sumR a=sumR b:=by
 induction h with
 |nil=>rfl
 |cons y _ ih=>simp only [sumR,ih]
 |swap y z l=>simp only [sumR];omega
 |trans _ _ h1 h2=>exact h1.trans h2
structure Tab (l t:List Nd) :Prop where
 rise:t.Pairwise fun a b=>a.1<b.1
 up: ∀z∈t,z.2=wUp l z.1
 all: ∀y∈l,∃z∈t,z.1=y.1
 of: ∀z∈t,∃y∈l,y.1=z.1
theorem Tab.perm {l l' t:List Nd} (h:Tab l t) (hp:l.Perm l') :Tab l' t:=
 ⟨h.rise,fun z hz=>(h.up z hz).trans (wUp_perm hp _),fun y hy=>h.all y (hp.mem_iff.2 hy),fun z hz=>by obtain⟨y,hy,e⟩:=h.of z hz;exact⟨y,hp.mem_iff.1 hy,e⟩⟩
theorem Tab.nil:Tab [] []:=⟨.nil,by simp,by simp,by simp⟩
theorem Tab.same {p t:List Nd} {y:Nd} {s:Int} (h:Tab p (t ++ [(y.1,s)])) (hy: ∀z∈p,z.1≤y.1) :Tab (p ++ [y]) (t ++ [(y.1,sumR p+y.2)]):=by
 have hr:=List.pairwise_append.1 h.rise;refine⟨List.pairwise_append.2 ⟨hr.1,List.pairwise_singleton _ _,fun a ha b hb=> ?_⟩,fun z hz=> ?_,fun z hz=> ?_,fun z hz=> ?_⟩
 ·simp at hb;subst hb;exact hr.2.2 a ha (y.1,s) (by simp)
 ·rw [wUp_append]
  rcases List.mem_append.1 hz with hz|hz
  ·have h1:=hr.2.2 z hz (y.1,s) (by simp)
   have h2:=h.up z (List.mem_append_left _ hz);simp only at h1;simp only [wUp];rw [if_neg (by omega)];omega
  ·simp at hz;subst hz
   simp only [wUp,wUp_all hy];simp
 ·rcases List.mem_append.1 hz with hz|hz
  ·obtain⟨u,hu,e⟩:=h.all z hz
   rcases List.mem_append.1 hu with hu|hu
   ·exact⟨u,List.mem_append_left _ hu,e⟩
   ·simp at hu;subst hu;exact⟨(y.1,sumR p+y.2),by simp,e⟩
  ·simp at hz;subst hz;exact⟨(z.1,sumR p+z.2),by simp,rfl⟩
 ·rcases List.mem_append.1 hz with hz|hz
  ·obtain⟨u,hu,e⟩:=h.of z (List.mem_append_left _ hz)
   exact⟨u,List.mem_append_left _ hu,e⟩
  ·simp at hz;subst hz;exact⟨y,by simp,rfl⟩
theorem Tab.more {p t:List Nd} {y:Nd} (h:Tab p t) (hy: ∀z∈p,z.1≤y.1) (hn: ∀z∈t,z.1≠y.1) :Tab (p ++ [y]) (t ++ [(y.1,sumR p+y.2)]):=by
 have hlt: ∀z∈t,z.1<y.1:=fun z hz=>by
  obtain⟨u,hu,e⟩:=h.of z hz;have:=hy u hu;have:=hn z hz;omega
 refine⟨List.pairwise_append.2 ⟨h.rise,List.pairwise_singleton _ _,fun a ha b hb=> ?_⟩,fun z hz=> ?_,fun z hz=> ?_,fun z hz=> ?_⟩
 ·simp at hb;subst hb;exact hlt a ha
 ·rw [wUp_append]
  rcases List.mem_append.1 hz with hz|hz
  ·have h1:=hlt z hz
   have h2:=h.up z hz;simp only [wUp];rw [if_neg (by omega)];omega
  ·simp at hz;subst hz
   simp only [wUp,wUp_all hy];simp
 ·rcases List.mem_append.1 hz with hz|hz
  ·obtain⟨u,hu,e⟩:=h.all z hz
   exact⟨u,List.mem_append_left _ hu,e⟩
  ·simp at hz;subst hz;exact⟨(z.1,sumR p+z.2),by simp,rfl⟩
 ·rcases List.mem_append.1 hz with hz|hz
  ·obtain⟨u,hu,e⟩:=h.of z hz
   exact⟨u,List.mem_append_left _ hu,e⟩
  ·simp at hz;subst hz;exact⟨y,by simp,rfl⟩
theorem Tab.last_ne {p t:List Nd} {a:Nd} {y:Nd} (h:Tab p (t ++ [a])) (hy: ∀z∈p,z.1≤y.1) (hn:a.1≠y.1) : ∀z∈t ++ [a],z.1≠y.1:=by
 have hr:=List.pairwise_append.1 h.rise;intro z hz;rcases List.mem_append.1 hz with hz|hz
 ·have h1:=hr.2.2 z hz a (by simp)
  obtain⟨u,hu,e⟩:=h.of a (by simp);have:=hy u hu;omega
 ·simp at hz;subst hz;exact hn
theorem count_boundary (p:Nat→Bool) (k:Nat) : ∀n,k≤n→(∀i,i<k→p i=true)→(∀i,k≤i→i<n→p i=false)→(List.range n).countP p=k
 |0,hk,_,_=>by have:k=0:=by omega
               subst this;rfl
 |n+1,hk,h1,h2=>by
  rw [List.range_succ,List.countP_append];by_cases h:k=n+1
  ·subst h
   rw [count_boundary p n n (Nat.le_refl _) (fun i hi=>h1 i (by omega)) (fun i h3 h4=>by omega)];simp [h1 n (by omega)]
  ·rw [count_boundary p k n (by omega) h1 fun i h3 h4=>h2 i h3 (by omega)]
   simp [h2 n (by omega) (by omega)]
theorem rise_boundary {t:List Nd} (h:t.Pairwise fun a b=>a.1<b.1) (x:Int) : ∃k,k≤t.length∧(∀i (hi:i<t.length),i<k→t[i].1≤x)∧∀i (hi:i<t.length),k≤i→x<t[i].1:=by
 induction t with
 |nil=>exact⟨0,Nat.le_refl _,fun i hi=>absurd hi (Nat.not_lt_zero _),fun i hi=>absurd hi (Nat.not_lt_zero _)⟩
 |cons a t ih=>
  obtain⟨h1,h2⟩:=List.pairwise_cons.1 h;obtain⟨k,hk,h3,h4⟩:=ih h2;by_cases ha:a.1≤x
  ·refine⟨k+1,by simp;omega,fun i hi hlt=> ?_,fun i hi hle=> ?_⟩
   ·cases i with
    |zero=>exact ha
    |succ i=>exact h3 i (by simpa using hi) (by omega)
   ·cases i with
    |zero=>omega
    |succ i=>exact h4 i (by simpa using hi) (by omega)
  ·refine⟨0,Nat.zero_le _,fun i hi hlt=>by omega,fun i hi _=> ?_⟩
   cases i with
   |zero=>simp;omega
   |succ i=>
    have hi':i<t.length:=by simpa using hi
    have:=h1 t[i] (List.getElem_mem hi');simp only [List.getElem_cons_succ];omega
def atMost (t:List Nd) (x:Int) :Nat:=(List.range t.length).countP fun i=> !decide (x< (t.getD i (0,0)).1)
theorem atMost_le (t:List Nd) (x:Int) :atMost t x≤t.length:=by
 have:=List.countP_le_length (p:=fun i=> !decide (x< (t.getD i (0,0)).1)) (l:=List.range t.length)
 simpa [atMost] using this
theorem getD_at {t:List Nd} {i:Nat} (hi:i<t.length) :t.getD i (0,0) =t[i]:=by rw [List.getD_eq_getElem?_getD,List.getElem?_eq_getElem hi];rfl
theorem atMost_boundary {t:List Nd} (h:t.Pairwise fun a b=>a.1<b.1) (x:Int) : (∀i (hi:i<t.length),i<atMost t x→t[i].1≤x)∧∀i (hi:i<t.length),atMost t x≤i→x<t[i].1:=by
 obtain⟨k,hk,h1,h2⟩:=rise_boundary h x
 have e:atMost t x=k:=by
  refine count_boundary _ k _ hk (fun i hi=> ?_) (fun i h3 h4=> ?_)
  ·have:=h1 i (by omega) hi
   rw [getD_at (by omega)];simp;omega
  ·have:=h2 i h4 h3
   rw [getD_at h4];simp;omega
 rw [e];exact⟨h1,h2⟩
theorem Tab.none {l t:List Nd} (h:Tab l t) {x:Int} (h0:atMost t x=0) :wUp l x=0:=by
 have hb:=(atMost_boundary h.rise x).2;rw [h0] at hb;refine wUp_none fun y hy=> ?_;obtain⟨z,hz,e⟩:=h.all y hy;obtain⟨i,hi,rfl⟩:=List.getElem_of_mem hz;have:=hb i hi (Nat.zero_le _);omega
theorem Tab.some {l t:List Nd} (h:Tab l t) {x:Int} (h0:atMost t x≠0) (hi:atMost t x - 1<t.length) :t[atMost t x - 1].2=wUp l x:=by
 have hb:=atMost_boundary h.rise x;rw [h.up _ (List.getElem_mem hi)];refine wUp_same fun y hy=> ?_;obtain⟨z,hz,e⟩:=h.all y hy;obtain⟨i,hi2,rfl⟩:=List.getElem_of_mem hz;have h1:=hb.1 _ hi (by omega)
 constructor
 ·intro h2;omega
 ·intro h2
  by_cases h3:i<atMost t x
  ·rcases Nat.lt_or_ge i (atMost t x - 1) with h4|h4
   ·have:=List.pairwise_iff_getElem.1 h.rise i (atMost t x - 1) hi2 hi h4;omega
   ·obtain rfl:i=atMost t x - 1:=by omega
    omega
  ·have:=hb.2 i hi2 (by omega);omega
abbrev Rdg:={x:Nd // 0≤x.1∧x.1≤281474976710655}
instance:Inhabited Rdg:=⟨⟨(0,0),by decide⟩⟩
def encQ:Enc Rdg 2:=⟨fun x=> [.int .i64 x.1.1,.int .i64 x.1.2],fun _=>rfl,by intro x u hu;simp at hu;rcases hu with rfl|rfl <;> rfl⟩
theorem flat_Q (l:List Rdg) :l.flatMap encQ.enc= (l.map (·.1)).flatMap encN.enc:=by
 induction l with
 |nil=>rfl
 |cons x l ih=>rw [List.flatMap_cons,List.map_cons,List.flatMap_cons,ih];rfl
theorem own_Q {w:World} {base e:Nat} {v:Value} {l:List Rdg} :Own w base e encQ v l↔Own w base e encN v (l.map (·.1)):=by
 unfold Own;rw [flat_Q];simp
theorem made_cmp (W:World) (x y:Rdg) :Calls Tryz.prog 180 #[.agg #[.int .i64 x.1.1,.int .i64 x.1.2],.agg #[.int .i64 y.1.1,.int .i64 y.1.2]] W fun e W'=>e=.returned (.int .i64 (x.1.1 - y.1.1))∧∃q os',W'=Go.Sort.grow (W.drewN q) os':=by
 obtain⟨x,hx1,hx2⟩:=x;obtain⟨y,hy1,hy2⟩:=y
 go_enter Tryz.func180,Tryz.ntmps180
 go_wp2_with fail;go_ret;refine⟨rfl,0, #[.cells #[.int .i64 x.1,.int .i64 x.2] 102,.cells #[.int .i64 y.1,.int .i64 y.2] 102],?_⟩;rw [Go.Sort.alloc_eq_grow,Go.Sort.alloc_eq_grow,Go.Sort.grow_grow]
 rfl
theorem swo_Q:Go.Sort.SWO (Go.Proofs.ltOf fun x y:Rdg=>x.1.1 - y.1.1) where
 irrefl x:=by simp [Go.Proofs.ltOf]
 trans x y z h1 h2:=by simp only [Go.Proofs.ltOf,decide_eq_true_eq] at*;omega
 ntrans x y z h1 h2:=by simp only [Go.Proofs.ltOf,decide_eq_false_iff_not] at*;omega
theorem enters_made: ∀args W,(callFunc 180 args).run Tryz.prog W=.ok (.enter 180 args) W:=enters_of Tryz.func180 (by kernel_rfl) rfl
theorem made_sort (w:World) (base:Nat) (v:Value) (l:List Nd) (ho:Own w base 102 encN v l) (hl: ∀x∈l,0≤x.1∧x.1≤281474976710655) (hm:l.length≤67108864) :
 Calls Tryz.prog 179 #[v,.func (.func 180) #[] #[]] w fun en w'=>en=.returned (.tuple #[])∧∃l',l'.Perm l∧l'.Pairwise (fun a b=>a.1≤b.1)∧Own w' base 102 encN v l'∧Turn (fun b=>v.ownBlock=some b) w w':=by
 obtain⟨lq,rfl⟩ : ∃lq:List Rdg,l=lq.map (·.1):=⟨l.pmap (fun x h=>⟨x,h⟩) hl,by rw [List.map_pmap];simp⟩;have:=sortFunc_own Tryz.sortReading encQ (by intro w;kernel_rfl) (by intro w;kernel_rfl) (fun x y:Rdg=>x.1.1 - y.1.1) swo_Q 180 #[] enters_made w base 102 v lq (own_Q.2 ho) (by simp at hm;omega) (fun W _ x y=>made_cmp W x y);refine Calls.mono this ?_;rintro e w' ⟨rfl,l',hp,hs,ho',hT⟩;refine⟨rfl,l'.map (·.1),hp.map _,?_,own_Q.1 ho',hT⟩;rw [List.pairwise_map];exact hs.imp fun {a b} h=>by simp only [Go.Proofs.ltOf,decide_eq_false_iff_not] at h;omega
def Sep (u v:Value) :Prop:=∀g,u.ownBlock=some g→v.ownBlock≠some g
theorem Sep.symm {u v:Value} (h:Sep u v) :Sep v u:=fun g h1 h2=>h g h2 h1
theorem turn_then {F:Nat→Prop} {w wa w1 w':World} (hA:Below w.heap.size w wa) (hT:Turn F wa w1) (hB:Below w.heap.size w1 w') :Turn F w w':=
 ⟨hB.os.trans (hT.os.trans hA.os),hB.tape.trans (hT.tape.trans hA.tape),hB.output.trans (hT.output.trans hA.output),Nat.le_trans hA.size (Nat.le_trans hT.size hB.size),fun b hb hn=>(hB.block b hb).trans ((hT.block b (Nat.lt_of_lt_of_le hb hA.size) hn).trans (hA.block b hb))⟩
def MadePost (v:Value) (l:List Nd) (w:World) (e:Ending) (w':World) :Prop:=
 ∃t A1 c1 A2 c2,e=.returned (.agg #[.slice A1 t.length c1,.slice A2 t.length c2])∧Tab l t∧t.length≤l.length∧Own w' w.heap.size 3 encZ (.slice A1 t.length c1) (t.map (·.1))∧Own w' w.heap.size 3 encZ (.slice A2 t.length c2) (t.map (·.2))∧Turn (fun b=>v.ownBlock=some b) w w'
def sumsAt (w:World) (b:Nat) (v1 v2:Value) :Prop:=w.heap[b]? =some (.cells #[v1,v2] 210 (0,0))
theorem sumsAt.ty {w:World} {b:Nat} {v1 v2:Value} (h:sumsAt w b v1 v2) :TypeAt w b 210:=.of h
structure TwoSt (w:World) (base B b0 bs:Nat) (vl:Value) (ll:List Nd) (V1 V2:Value) (W:World) (U1:Value) (L1:List Int) (U2:Value) (L2:List Int) :Prop where
 lst:Own W 0 102 encN vl ll
 sums:sumsAt W bs V1 V2
 zero:sumsAt W b0 (.slice none 0 0) (.slice none 0 0)
 own1:Own W B 3 encZ U1 L1
 own2:Own W B 3 encZ U2 L2
 sep:Sep U1 U2
 blw:Below base w W
 size:B≤W.heap.size
 h0:b0<bs
 h1:bs<B
 hb0:base≤b0
section
variable {w:World} {base B b0 bs:Nat} {vl:Value} {ll:List Nd} {V1 V2:Value} {W W':World} {U1 U1':Value} {L1 L1':List Int} {U2 U2':Value} {L2 L2':List Int}
theorem TwoSt.below (h:TwoSt w base B b0 bs vl ll V1 V2 W U1 L1 U2 L2) (hb:Below W.heap.size W W') :TwoSt w base B b0 bs vl ll V1 V2 W' U1 L1 U2 L2:=
 ⟨h.lst.below hb,bB h.sums hb,bB h.zero hb,h.own1.below hb,h.own2.below hb,h.sep,h.blw.trans (hb.mono (by have:=h.h0;have:=h.h1;have:=h.hb0;have:=h.size;omega)),Nat.le_trans h.size hb.size,h.h0,h.h1,h.hb0⟩
theorem TwoSt.alloc (h:TwoSt w base B b0 bs vl ll V1 V2 W U1 L1 U2 L2) (o:Obj) :TwoSt w base B b0 bs vl ll V1 V2 (W.alloc o) U1 L1 U2 L2:=h.below ((Below.refl _ _).alloc (Nat.le_refl _) o)
theorem TwoSt.drew (h:TwoSt w base B b0 bs vl ll V1 V2 W U1 L1 U2 L2) :TwoSt w base B b0 bs vl ll V1 V2 W.drew U1 L1 U2 L2:=h.below (Below.refl _ _).drew
theorem TwoSt.app1 (h:TwoSt w base B b0 bs vl ll V1 V2 W U1 L1 U2 L2) (hg:W.grownBy W' U1.ownBlock) (ho:Own W' B 3 encZ U1' L1') (hl:U1'.ownBlock=U1.ownBlock∨U1'.ownBlock=some W.heap.size) (hb:Below B W W') :
 TwoSt w base B b0 bs vl ll V1 V2 W' U1' L1' U2 L2:=
 ⟨h.lst.kept hg (own_ne h.lst h.own1 (by decide)),blk_grown h.sums h.own1 hg (by decide),blk_grown h.zero h.own1 hg (by decide),ho,h.own2.kept hg (by
  cases e:U2.ownBlock with
  |none=>exact .inl rfl
  |some g=>exact .inr fun he=>h.sep g (by rw [←he]) e),fun g h1 h2=>by
   rcases hl with hl|hl
   ·exact h.sep g (hl ▸ h1) h2
   ·rw [hl] at h1;cases h1;exact absurd (h.own2.lt _ h2).2 (Nat.lt_irrefl _),h.blw.trans (hb.mono (by have:=h.h0;have:=h.h1;have:=h.hb0;omega)),Nat.le_trans h.size hb.size,h.h0,h.h1,h.hb0⟩
theorem TwoSt.app2 (h:TwoSt w base B b0 bs vl ll V1 V2 W U1 L1 U2 L2) (hg:W.grownBy W' U2.ownBlock) (ho:Own W' B 3 encZ U2' L2') (hl:U2'.ownBlock=U2.ownBlock∨U2'.ownBlock=some W.heap.size) (hb:Below B W W') :
 TwoSt w base B b0 bs vl ll V1 V2 W' U1 L1 U2' L2':=
 ⟨h.lst.kept hg (own_ne h.lst h.own2 (by decide)),blk_grown h.sums h.own2 hg (by decide),blk_grown h.zero h.own2 hg (by decide),h.own1.kept hg (by
  cases e:U1.ownBlock with
  |none=>exact .inl rfl
  |some g=>exact .inr fun he=>h.sep g e (by rw [←he])),ho,fun g h1 h2=>by
   rcases hl with hl|hl
   ·exact h.sep g h1 (hl ▸ h2)
   ·rw [hl] at h2;cases h2;exact absurd (h.own1.lt _ h1).2 (Nat.lt_irrefl _),h.blw.trans (hb.mono (by have:=h.h0;have:=h.h1;have:=h.hb0;omega)),Nat.le_trans h.size hb.size,h.h0,h.h1,h.hb0⟩
theorem TwoSt.st (h:TwoSt w base B b0 bs vl ll V1 V2 W U1 L1 U2 L2) :TwoSt w base B b0 bs vl ll U1 U2 ((W.setCell ⟨bs,0,none⟩ U1).setCell ⟨bs,1,none⟩ U2) U1 L1 U2 L2:=
 have hbb:base≤bs:=by have:=h.h0;have:=h.hb0;omega
 ⟨(h.lst.setCellT h.sums.ty (by decide)).setCellT h.sums.ty.setCell (by decide),zH (i:=1) (zH (i:=0) h.sums _) _,
  (Below.heap_setCell _ _ _ _ (by have:=h.h0;simp only;omega)).trans ((Below.heap_setCell _ _ _ _ (by have:=h.h0;simp only;omega)).trans h.zero),
  (h.own1.setCellB h.h1).setCellB h.h1,(h.own2.setCellB h.h1).setCellB h.h1,h.sep,(h.blw.setCell (p:=⟨bs,0,none⟩) hbb _).setCell (p:=⟨bs,1,none⟩) hbb _,by simp only [World.size_setCell];exact h.size,h.h0,h.h1,h.hb0⟩
theorem Own.ty_at {α:Type} {size base e:Nat} {w:World} {E:Enc α size} {b off n cap:Nat} {l:List α} (h:Own w base e E (.slice (some ⟨b,off,none⟩) n cap) l) :TypeAt w b e:=by
 rcases h with ⟨hv,_⟩ | ⟨g,o,c,cur,hv,_,hh,_⟩
 ·cases hv
 ·cases hv
  exact .of hh
theorem TwoSt.set2 {b o n c:Nat} (h:TwoSt w base B b0 bs vl ll V1 V2 W U1 L1 (.slice (some ⟨b,o,none⟩) n c) L2) (m:Nat) (hm:m<L2.length) (x:Int) :
 TwoSt w base B b0 bs vl ll V1 V2 (W.setCell ⟨b,o+m,none⟩ (.int .i64 x)) U1 L1 (.slice (some ⟨b,o,none⟩) n c) (L2.set m x):=
 have hty:=h.own2.ty_at;have hbB:B≤b:=(h.own2.lt b rfl).1
 ⟨h.lst.setCellT hty (by decide),(Below.heap_setCell _ _ _ _ (by have:=h.h1;simp only;omega)).trans h.sums,(Below.heap_setCell _ _ _ _ (by have:=h.h0;have:=h.h1;simp only;omega)).trans h.zero,
  h.own1.setCell (fun he=>h.sep b he rfl) _,by have:=h.own2.setElem m 0 hm (by decide) (.int .i64 x) x rfl;simpa using this,h.sep,h.blw.setCell (p:=⟨b,o+m,none⟩) (by have:=h.h0;have:=h.h1;have:=h.hb0;simp only;omega) _,by simp only [World.size_setCell];exact h.size,h.h0,h.h1,h.hb0⟩
theorem set_last {t':List Nd} {a:Nd} {m:Nat} (hm:m=t'.length) (z:Nd) : ((t' ++ [a]).map (·.2)).set m z.2= (t' ++ [z]).map (·.2):=by
 subst hm;rw [List.map_append,List.set_append_right _ _ (by simp)];simp
theorem grown_new {row:Option Nat} (hg:W.grownBy W' row) (z:Nat) (hz: ∀g,row=some g→g<z) (b o:Nat) (h1:z≤b) (h2:b<W.heap.size) :W'.cell? ⟨b,o,none⟩ =W.cell? ⟨b,o,none⟩:=
 grown_cell hg b h2 (by rintro rfl;have:=hz b rfl;omega) o
end
theorem sl_cell {W:World} {b o:Nat} {x:Int} (h:W.cell? ⟨b,o,none⟩ =some (.int .i64 x)) (hb:b<W.heap.size) :Sl W W.heap.size encZ (some ⟨b,o,none⟩) [x]:=
 .inr ⟨b,o,rfl,hb,fun i y hi j u hj=>by
  cases i with
  |succ i=>simp at hi
  |zero=>
   simp at hi;subst hi
   cases j with
   |succ j=>simp [encZ] at hj
   |zero=>simp [encZ] at hj;subst hj;simpa using h⟩
theorem sum_part {l:List Nd} (h: ∀z∈l,1≤z.2) {q:Nat} (hq:q<l.length) :0≤sumR (l.take q)∧sumR (l.take q) +l[q].2≤sumR l:=by
 induction l generalizing q with
 |nil=>exact absurd hq (Nat.not_lt_zero _)
 |cons x l ih=>
  have hx:=h x (by simp)
  cases q with
  |zero=>
   have: ∀l:List Nd,(∀z∈l,1≤z.2)→0≤sumR l:=fun l=>by
    intro hl
    induction l with
    |nil=>simp [sumR]
    |cons y l ih2=>have:=hl y (by simp);have:=ih2 fun z hz=>hl z (by simp [hz]);simp only [sumR];omega
   have:=this l fun z hz=>h z (by simp [hz]);simp [sumR];omega
  |succ q=>
   have:=ih (fun z hz=>h z (by simp [hz])) (q:=q) (by simpa using hq);simp only [List.take_succ_cons,sumR,List.getElem_cons_succ];omega
theorem rank_made (w:World) (base:Nat) (v:Value) (l:List Nd) (ho:Own w base 102 encN v l) (hl: ∀x∈l,0≤x.1∧x.1≤281474976710655) (h1: ∀x∈l,1≤x.2) (hs:sumR l≤72057594037927935) (hm:l.length≤67108864) :
 Calls Tryz.prog 127 #[v] w (MadePost v l w):=by
 have hno:=ho.not_at w.heap.size (Nat.le_refl _);have HO:=LH (ho.alloc (.cells #[.slice none 0 0,.slice none 0 0] 210));have HL:=LH hl;have H1:=LH h1;clear ho hl h1
 go_enter Tryz.func127,Tryz.ntmps127
 go_wp2_with fail;refine(made_sort _ base v l HO.out HL.out hm).mono ?_;rintro e w1 ⟨rfl,l',hp,hsrt,ho1,hT⟩;have HLen:=LH hp.length_eq;have hlm:l'.length≤67108864:=by have:=HLen.out;omega
 have HTu:=LH hT;have s1:=hT.size;have HP:=LH hp;have HSo:=LH hsrt;have HO1:=LH ho1;have z0:w.heap.size<w1.heap.size:=by simp at s1;omega
 have N0:=LH (hT.keep (b:=w.heap.size) (heap_alloc_new w _) hno);clear hp hsrt ho1 hT;obtain⟨A,cap,hvf,_⟩:=HO1.out.form;have HV:=LH hvf;subst hvf;go_wp2_with fail
 have S0:Hid (TwoSt w1 w.heap.size (w1.heap.size+1) w.heap.size w1.heap.size (.slice A l'.length cap) l' (.slice none 0 0) (.slice none 0 0) (w1.alloc (.cells #[.slice none 0 0,.slice none 0 0] 210)) (.slice none 0 0) [] (.slice none 0 0) []):=
  LH ⟨(HO1.out.base_le (Nat.zero_le _)).alloc _,heap_alloc_new w1 _,(Below.heap_alloc w1 _ w.heap.size z0).trans N0.out,Own.nil _ _ _ _,Own.nil _ _ _ _,(fun g h=>by cases h),(Below.refl _ _).alloc (by omega) _,(by simp),z0,(by omega),Nat.le_refl _⟩
 go_loopw [4,12] (fun n i wr=>∃(q k1 k2:Nat) (t:List Nd) (A1 A2:Option Addr) (c1 c2:Nat),q≤l'.length∧i=.int .i64 q∧n=.int .i64 (sumR (l'.take q))∧k1=t.length∧k2=t.length∧
  TwoSt w1 w.heap.size (w1.heap.size+1) w.heap.size w1.heap.size (.slice A l'.length cap) l' (.slice A1 k1 c1) (.slice A2 k2 c2) wr (.slice A1 k1 c1) (t.map (·.1)) (.slice A2 k2 c2) (t.map (·.2))∧Tab (l'.take q) t∧t.length≤q) (fun _ i _=>l'.length - (intOf i).toNat)
 case atStart=>exact⟨0,0,0, [],none,none,0,0,Nat.zero_le _,rfl,rfl,rfl,rfl,S0.out,Tab.nil,Nat.le_refl _⟩
 case round=>
  obtain⟨q,k1,k2,t,A1,A2,c1,c2,hq,rfl,rfl,hk1,hk2,hst,htab,htq⟩:=hrel;have hz:=hst.size;have hzs:w1.heap.size<wr.heap.size:=by omega
  have cs:=bC hst.sums;have cf:=bF hst.sums;have KST:=LH hst;have KT:=LH htab;by_cases hlt:q<l'.length
  ·obtain⟨c,off,rfl,hc,hcl⟩:=hst.lst.sl.at_ hlt
   have d0:=hcl 0 (.int .i64 l'[q].1) rfl;have d1:=hcl 1 (.int .i64 l'[q].2) rfl;simp only [Nat.add_zero] at d0;have hx:=HL.out _ (HP.out.mem_iff.1 (List.getElem_mem hlt));have hx1:=H1.out _ (HP.out.mem_iff.1 (List.getElem_mem hlt));have e1:=sumR_take_succ hlt
   have hle: ∀z∈l'.take q,z.1≤l'[q].1:=fun z hz=>by
    obtain⟨i,hi,rfl⟩:=List.getElem_of_mem hz;have hi':i<q:=by rw [List.length_take] at hi;omega
    rw [List.getElem_take];exact List.pairwise_iff_getElem.1 HSo.out i q (by omega) hlt hi'
   have hts:=List.take_succ_eq_append_getElem hlt;have hpos: ∀z∈l',1≤z.2:=fun z hz=>H1.out z (HP.out.mem_iff.1 hz);have hsb:=sum_part hpos hlt;rw [sumR_perm HP.out] at hsb;obtain⟨y,hye⟩ : ∃y,y=l'[q]:=⟨_,rfl⟩;rw [←hye] at d0 d1 hx hx1 e1 hle hts hsb;have HTS:=LH hts;have HLE:=LH hle;have HE1:=LH e1;have hlq:q≤67108864:=by omega
   have HK1:=LH hk1;have HK2:=LH hk2;have kb1:k1≤67108864:=by omega
   have kb2:k2≤67108864:=by omega
   obtain⟨n,hn⟩ : ∃n,n=sumR (l'.take q):=⟨_,rfl⟩;rw [←hn] at hsb HE1⊢;have HN:=LH hn;have i1:=hst.own1.len_le;have i2:=hst.own2.len_le;simp only [List.length_map] at i1 i2;have ic1:k1≤c1:=by omega
   have ic2:k2≤c2:=by omega
   have kk:Hid (k2=k1):=LH (by omega);clear hst htab hcl e1 hle hts hye hpos hk1 hk2 hn hq i1 i2;rcases List.eq_nil_or_concat t with ht| ⟨t',a,ht⟩
   ·have g1:decide (0<k1) =false:=by have:=HK1.out;rw [ht] at this;simp at this;simp;omega
    have hne: ∀z∈t,z.1≠y.1:=by rw [ht];simp
    have HNE:=LH hne;clear hne ht;go_wp2_with fail;refine rX (by kernel_rfl) (by kernel_rfl) ?_
    repeat (go_big_quiet_step (fail))
    refine wpQuiet_nil ?_;intro w2 hb2;replace hb2:=bX hb2;have c20:=(hb2.cell (p:=⟨wr.heap.size,0,none⟩) (by simp)).trans (by go_simp:_=some (Value.int .i64 y.1));have z20:wr.heap.size<w2.heap.size:=by have:=hb2.size;simp at this;omega
    have s2:=(KST.out.alloc (.cells #[.int .i64 y.1,.int .i64 y.2] 102)).below hb2;have cs2:=bC s2.sums;have cf2:=bF s2.sums;have zs2:w1.heap.size<w2.heap.size:=by omega
    have ow1: ∀g,(Value.slice A1 k1 c1).ownBlock=some g→g<wr.heap.size:=fun g hg=>(KST.out.own1.lt g hg).2;have ow2: ∀g,(Value.slice A2 k2 c2).ownBlock=some g→g<wr.heap.size:=fun g hg=>(KST.out.own2.lt g hg).2;generalize Value.slice A1 k1 c1=V1 at s2 cs2 ow1⊢;generalize Value.slice A2 k2 c2=V2 at s2 cs2 ow2⊢;have W1:=LH ow1;have W2:=LH ow2;have S2:=LH s2;clear s2 hb2 cs cf g1 ow1 ow2;go_wp2_with fail;refine wp_region_noPanic ?_;refine wp_region_N (fun w'=>w'.cell? ⟨w1.heap.size,0,none⟩ =some V1∧w'.cell? ⟨w1.heap.size,1,none⟩ =some V2∧w'.cell? ⟨wr.heap.size,0,none⟩ =some (.int .i64 y.1)) [12,14] (by kernel_rfl) ⟨by simp [*,go_sem],by simp [*,go_sem],by simp [*,go_sem]⟩ (fun hHeld=> ?_);refine nP 0 (.pointer (some ⟨w1.heap.size,0,none⟩)) (h:= ?_)
    (try simp only [Act.put,zD,zE,zF])
    refine nT 1 (V1) (y:=Or.inl ⟨by rfl,fun W hW=>by obtain⟨q1,q2,q3⟩:=hW;go_simp⟩) (s:=hHeld) (h:= ?_)
    (try simp only [Act.put,zD,zE,zF])
    refine nP 2 (.pointer (some ⟨wr.heap.size,0,none⟩)) (h:= ?_)
    (try simp only [Act.put,zD,zE,zF])
    refine nT 3 (.int .i64 y.1) (y:=Or.inl ⟨by rfl,fun W hW=>by obtain⟨q1,q2,q3⟩:=hW;go_simp⟩) (s:=hHeld) (h:= ?_)
    (try simp only [Act.put,zD,zE,zF])
    refine nP 6 (.pointer (some ⟨w1.heap.size,1,none⟩)) (h:= ?_)
    (try simp only [Act.put,zD,zE,zF])
    refine nT 7 (V2) (y:=Or.inl ⟨by rfl,fun W hW=>by obtain⟨q1,q2,q3⟩:=hW;go_simp⟩) (s:=hHeld) (h:= ?_)
    (try simp only [Act.put,zD,zE,zF])
    refine nP 8 (.int .i64 (n+y.2)) (h:= ?_)
    (try simp only [Act.put,zD,zE,zF])
    clear hHeld;refine wpAnyN_two (i:=4) (k:=9) (by kernel_rfl) rfl rfl (fun K hK=> ?_) (fun K hK=> ?_)
    ·skip
     go_simp;refine hK.out _ _ (fun _ _=> ?_) ?_
     ·exact⟨by simp [*,go_sem],by simp [*,go_sem],by simp [*,go_sem]⟩
     clear hK K
     (try simp only [Act.put,zD,zE,zF])
     refine wpAnyN_two (i:=5) (k:=9) (by kernel_rfl) rfl rfl (fun K hK=> ?_) (fun K hK=> ?_)
     ·skip
      refine step_app (o:=⟨some 47,_,_,_,_,_⟩) tyZ (by rfl) _ _ (by rfl) encZ (w1.heap.size+1) V1 (t.map (·.1)) (by rfl) (TwoSt.own1 (w:=w1) (base:=w.heap.size) (B:=w1.heap.size+1) (b0:=w.heap.size) (bs:=w1.heap.size) (vl:=(Value.slice (some ⟨c,off,none⟩) l'.length cap)) (ll:=l') (V1:=V1) (V2:=V2) (U2:=V2) (L2:=(t.map (·.2))) (by(repeat (first|with_reducible exact S2.out|with_reducible refine TwoSt.alloc ?_ _|with_reducible refine TwoSt.drew ?_));done)) _ 1 [y.1] _ (by rfl) (sl_cell (by simp [*,go_sem]) (by first|omega| (simp;done) | (simp;omega))) (by first|omega| (simp;omega)) (by simp [maxLen];omega) (by first|omega| (simp;omega)) ?_;intro v4 w4 ho4 hg4 hl4 hb4 hn4;obtain⟨A4,k4,m4,rfl⟩ : ∃A k m,v4=.slice A m k:=by obtain⟨A,k,hv,_⟩:=ho4.form;exact⟨A,k,_,hv⟩
      have P4:=TwoSt.app1 (w:=w1) (base:=w.heap.size) (B:=w1.heap.size+1) (b0:=w.heap.size) (bs:=w1.heap.size) (vl:=(Value.slice (some ⟨c,off,none⟩) l'.length cap)) (ll:=l') (V1:=V1) (V2:=V2) (U2:=V2) (L2:=(t.map (·.2))) (U1:=V1) (L1:=(t.map (·.1))) (by(repeat (first|with_reducible exact S2.out|with_reducible refine TwoSt.alloc ?_ _|with_reducible refine TwoSt.drew ?_));done) hg4 ho4 hl4 hb4;have r4:=hg4.size
      try simp only [World.size_alloc,World.drew] at r4
      have G4:=grown_new hg4 wr.heap.size (fun g hg=>W1.out g hg);have x4:=bC P4.sums;have f4:=bF P4.sums;have y4:w4.cell? ⟨wr.heap.size,0,none⟩ =some (.int .i64 y.1):=(G4 wr.heap.size 0 (Nat.le_refl _) (by first|omega| (simp;omega))).trans (by simp [*,go_sem]);have z4:w1.heap.size<w4.heap.size:=P4.size;have q4:wr.heap.size<w4.heap.size:=by have:=hg4.size;(try simp at this);omega
      clear hn4 hb4 hl4 hg4 ho4;refine hK.out _ _ (fun _ _=> ?_) ?_
      ·exact⟨by simp [*,go_sem],by simp [*,go_sem],by simp [*,go_sem]⟩
      clear hK K
      (try simp only [Act.put,zD,zE,zF])
      refine nP 11 (.pointer (some ⟨w1.heap.size,0,none⟩)) (h:= ?_)
      (try simp only [Act.put,zD,zE,zF])
      refine nO (i:=9) (by kernel_rfl) rfl (fun K hK=> ?_);go_simp;refine hK.out _ _ (fun _ _=> ?_) ?_
      ·exact⟨by simp [*,go_sem],by simp [*,go_sem],by simp [*,go_sem]⟩
      clear hK K
      (try simp only [Act.put,zD,zE,zF])
      refine nO (i:=10) (by kernel_rfl) rfl (fun K hK=> ?_);refine step_app (o:=⟨some 52,_,_,_,_,_⟩) tyZ (by rfl) _ _ (by rfl) encZ (w1.heap.size+1) V2 (t.map (·.2)) (by rfl) (TwoSt.own2 (w:=w1) (base:=w.heap.size) (B:=w1.heap.size+1) (b0:=w.heap.size) (bs:=w1.heap.size) (vl:=(Value.slice (some ⟨c,off,none⟩) l'.length cap)) (ll:=l') (V1:=V1) (V2:=V2) (U1:=.slice A4 m4 k4) (L1:=(t.map (·.1)) ++ [y.1]) (by(repeat (first|with_reducible exact P4|with_reducible refine TwoSt.alloc ?_ _|with_reducible refine TwoSt.drew ?_));done)) _ 1 [(n+y.2)] _ (by rfl) (sl_cell (by simp [*,go_sem]) (by first|omega| (simp;done) | (simp;omega))) (by first|omega| (simp;omega)) (by simp [maxLen];omega) (by first|omega| (simp;omega)) ?_;intro v5 w5 ho5 hg5 hl5 hb5 hn5;obtain⟨A5,k5,m5,rfl⟩ : ∃A k m,v5=.slice A m k:=by obtain⟨A,k,hv,_⟩:=ho5.form;exact⟨A,k,_,hv⟩
      have P5:=TwoSt.app2 (w:=w1) (base:=w.heap.size) (B:=w1.heap.size+1) (b0:=w.heap.size) (bs:=w1.heap.size) (vl:=(Value.slice (some ⟨c,off,none⟩) l'.length cap)) (ll:=l') (V1:=V1) (V2:=V2) (U1:=.slice A4 m4 k4) (L1:=(t.map (·.1)) ++ [y.1]) (U2:=V2) (L2:=(t.map (·.2))) (by(repeat (first|with_reducible exact P4|with_reducible refine TwoSt.alloc ?_ _|with_reducible refine TwoSt.drew ?_));done) hg5 ho5 hl5 hb5;have r5:=hg5.size
      try simp only [World.size_alloc,World.drew] at r5
      have G5:=grown_new hg5 wr.heap.size (fun g hg=>W2.out g hg);have x5:=bC P5.sums;have f5:=bF P5.sums;have y5:w5.cell? ⟨wr.heap.size,0,none⟩ =some (.int .i64 y.1):=(G5 wr.heap.size 0 (Nat.le_refl _) (by first|omega| (simp;omega))).trans (by simp [*,go_sem]);have z5:w1.heap.size<w5.heap.size:=P5.size;have q5:wr.heap.size<w5.heap.size:=by have:=hg5.size;(try simp at this);omega
      clear hn5 hb5 hl5 hg5 ho5;refine hK.out _ _ (fun _ _=> ?_) ?_
      ·exact⟨by simp [*,go_sem],by simp [*,go_sem],by simp [*,go_sem]⟩
      clear hK K
      (try simp only [Act.put,zD,zE,zF])
      refine nO (i:=12) (by kernel_rfl) rfl (fun K hK=> ?_);go_simp;refine hK.out _ _ (fun h _=>absurd (by decide) h) ?_;clear hK K
      (try simp only [Act.put,zD,zE,zF])
      refine nP 13 (.pointer (some ⟨w1.heap.size,1,none⟩)) (h:= ?_)
      (try simp only [Act.put,zD,zE,zF])
      refine nO (i:=14) (by kernel_rfl) rfl (fun K hK=> ?_);go_simp;refine hK.out _ _ (fun h _=>absurd (by decide) h) ?_;clear hK K
      (try simp only [Act.put,zD,zE,zF])
      refine nD (by kernel_rfl) ?_ _;have E4:=P5.own1.len_le;have E5:=P5.own2.len_le;simp only [List.length_append,List.length_map,List.length_cons,List.length_nil] at E4 E5;have F4:=LH E4.1;have F5:=LH E5.1;have PF:=LH P5.st;clear E4 E5 P4 P5 G4 G5 x4 x5 f4 f5 y4 y5 z4 z5 q4 q5 r4 r5 c20 z20 cs2 cf2;refine NoPanic.normal ?_;go_wp2_with fail;go_roundw
      case rel=>exact⟨q+1,m4,m5,t ++ [(y.1,n+y.2)],A4,A5,k4,k5,by omega,by go_num,by rw [HE1.out],by have:=F4.out;simp;omega,by have:=F5.out;simp;omega,by simpa using PF.out,by rw [HTS.out];have:=KT.out.more HLE.out HNE.out;rwa [←HN.out] at this,by simp;omega⟩
      case measure=>simp [intOf];omega
     ·skip
      go_simp;refine hK.out _ _ (fun _ _=> ?_) ?_
      ·exact⟨by simp [*,go_sem],by simp [*,go_sem],by simp [*,go_sem]⟩
      clear hK K
      (try simp only [Act.put,zD,zE,zF])
      refine nO (i:=5) (by kernel_rfl) rfl (fun K hK=> ?_);refine step_app (o:=⟨some 47,_,_,_,_,_⟩) tyZ (by rfl) _ _ (by rfl) encZ (w1.heap.size+1) V1 (t.map (·.1)) (by rfl) (TwoSt.own1 (w:=w1) (base:=w.heap.size) (B:=w1.heap.size+1) (b0:=w.heap.size) (bs:=w1.heap.size) (vl:=(Value.slice (some ⟨c,off,none⟩) l'.length cap)) (ll:=l') (V1:=V1) (V2:=V2) (U2:=V2) (L2:=(t.map (·.2))) (by(repeat (first|with_reducible exact S2.out|with_reducible refine TwoSt.alloc ?_ _|with_reducible refine TwoSt.drew ?_));done)) _ 1 [y.1] _ (by rfl) (sl_cell (by simp [*,go_sem]) (by first|omega| (simp;done) | (simp;omega))) (by first|omega| (simp;omega)) (by simp [maxLen];omega) (by first|omega| (simp;omega)) ?_;intro v4 w4 ho4 hg4 hl4 hb4 hn4;obtain⟨A4,k4,m4,rfl⟩ : ∃A k m,v4=.slice A m k:=by obtain⟨A,k,hv,_⟩:=ho4.form;exact⟨A,k,_,hv⟩
      have P4:=TwoSt.app1 (w:=w1) (base:=w.heap.size) (B:=w1.heap.size+1) (b0:=w.heap.size) (bs:=w1.heap.size) (vl:=(Value.slice (some ⟨c,off,none⟩) l'.length cap)) (ll:=l') (V1:=V1) (V2:=V2) (U2:=V2) (L2:=(t.map (·.2))) (U1:=V1) (L1:=(t.map (·.1))) (by(repeat (first|with_reducible exact S2.out|with_reducible refine TwoSt.alloc ?_ _|with_reducible refine TwoSt.drew ?_));done) hg4 ho4 hl4 hb4;have r4:=hg4.size
      try simp only [World.size_alloc,World.drew] at r4
      have G4:=grown_new hg4 wr.heap.size (fun g hg=>W1.out g hg);have x4:=bC P4.sums;have f4:=bF P4.sums;have y4:w4.cell? ⟨wr.heap.size,0,none⟩ =some (.int .i64 y.1):=(G4 wr.heap.size 0 (Nat.le_refl _) (by first|omega| (simp;omega))).trans (by simp [*,go_sem]);have b4:w4.cell? ⟨w2.heap.size+1,0,none⟩ =some (.int .i64 (n+y.2)):=(G4 (w2.heap.size+1) 0 (by omega) (by first|omega| (simp;done) | (simp;omega))).trans (by simp [*,go_sem]);have z4:w1.heap.size<w4.heap.size:=P4.size;have q4:wr.heap.size<w4.heap.size:=by have:=hg4.size;(try simp at this);omega
      clear hn4 hb4 hl4 hg4 ho4;refine hK.out _ _ (fun _ _=> ?_) ?_
      ·exact⟨by simp [*,go_sem],by simp [*,go_sem],by simp [*,go_sem]⟩
      clear hK K
      (try simp only [Act.put,zD,zE,zF])
      refine nP 11 (.pointer (some ⟨w1.heap.size,0,none⟩)) (h:= ?_)
      (try simp only [Act.put,zD,zE,zF])
      refine nO (i:=10) (by kernel_rfl) rfl (fun K hK=> ?_);refine step_app (o:=⟨some 52,_,_,_,_,_⟩) tyZ (by rfl) _ _ (by rfl) encZ (w1.heap.size+1) V2 (t.map (·.2)) (by rfl) (TwoSt.own2 (w:=w1) (base:=w.heap.size) (B:=w1.heap.size+1) (b0:=w.heap.size) (bs:=w1.heap.size) (vl:=(Value.slice (some ⟨c,off,none⟩) l'.length cap)) (ll:=l') (V1:=V1) (V2:=V2) (U1:=.slice A4 m4 k4) (L1:=(t.map (·.1)) ++ [y.1]) (by(repeat (first|with_reducible exact P4|with_reducible refine TwoSt.alloc ?_ _|with_reducible refine TwoSt.drew ?_));done)) _ 1 [(n+y.2)] _ (by rfl) (sl_cell (by simp [*,go_sem]) (by first|omega| (simp;done) | (simp;omega))) (by first|omega| (simp;omega)) (by simp [maxLen];omega) (by first|omega| (simp;omega)) ?_;intro v5 w5 ho5 hg5 hl5 hb5 hn5;obtain⟨A5,k5,m5,rfl⟩ : ∃A k m,v5=.slice A m k:=by obtain⟨A,k,hv,_⟩:=ho5.form;exact⟨A,k,_,hv⟩
      have P5:=TwoSt.app2 (w:=w1) (base:=w.heap.size) (B:=w1.heap.size+1) (b0:=w.heap.size) (bs:=w1.heap.size) (vl:=(Value.slice (some ⟨c,off,none⟩) l'.length cap)) (ll:=l') (V1:=V1) (V2:=V2) (U1:=.slice A4 m4 k4) (L1:=(t.map (·.1)) ++ [y.1]) (U2:=V2) (L2:=(t.map (·.2))) (by(repeat (first|with_reducible exact P4|with_reducible refine TwoSt.alloc ?_ _|with_reducible refine TwoSt.drew ?_));done) hg5 ho5 hl5 hb5;have r5:=hg5.size
      try simp only [World.size_alloc,World.drew] at r5
      have G5:=grown_new hg5 wr.heap.size (fun g hg=>W2.out g hg);have x5:=bC P5.sums;have f5:=bF P5.sums;have y5:w5.cell? ⟨wr.heap.size,0,none⟩ =some (.int .i64 y.1):=(G5 wr.heap.size 0 (Nat.le_refl _) (by first|omega| (simp;omega))).trans (by simp [*,go_sem]);have z5:w1.heap.size<w5.heap.size:=P5.size;have q5:wr.heap.size<w5.heap.size:=by have:=hg5.size;(try simp at this);omega
      clear hn5 hb5 hl5 hg5 ho5;refine hK.out _ _ (fun _ _=> ?_) ?_
      ·exact⟨by simp [*,go_sem],by simp [*,go_sem],by simp [*,go_sem]⟩
      clear hK K
      (try simp only [Act.put,zD,zE,zF])
      refine nO (i:=12) (by kernel_rfl) rfl (fun K hK=> ?_);go_simp;refine hK.out _ _ (fun h _=>absurd (by decide) h) ?_;clear hK K
      (try simp only [Act.put,zD,zE,zF])
      refine nP 13 (.pointer (some ⟨w1.heap.size,1,none⟩)) (h:= ?_)
      (try simp only [Act.put,zD,zE,zF])
      refine nO (i:=14) (by kernel_rfl) rfl (fun K hK=> ?_);go_simp;refine hK.out _ _ (fun h _=>absurd (by decide) h) ?_;clear hK K
      (try simp only [Act.put,zD,zE,zF])
      refine nD (by kernel_rfl) ?_ _;have E4:=P5.own1.len_le;have E5:=P5.own2.len_le;simp only [List.length_append,List.length_map,List.length_cons,List.length_nil] at E4 E5;have F4:=LH E4.1;have F5:=LH E5.1;have PF:=LH P5.st;clear E4 E5 P4 P5 G4 G5 x4 x5 f4 f5 y4 y5 z4 z5 q4 q5 r4 r5 c20 z20 cs2 cf2;refine NoPanic.normal ?_;go_wp2_with fail;go_roundw
      case rel=>exact⟨q+1,m4,m5,t ++ [(y.1,n+y.2)],A4,A5,k4,k5,by omega,by go_num,by rw [HE1.out],by have:=F4.out;simp;omega,by have:=F5.out;simp;omega,by simpa using PF.out,by rw [HTS.out];have:=KT.out.more HLE.out HNE.out;rwa [←HN.out] at this,by simp;omega⟩
      case measure=>simp [intOf];omega
    ·skip
     go_simp;refine hK.out _ _ (fun _ _=> ?_) ?_
     ·exact⟨by simp [*,go_sem],by simp [*,go_sem],by simp [*,go_sem]⟩
     clear hK K
     (try simp only [Act.put,zD,zE,zF])
     refine nO (i:=4) (by kernel_rfl) rfl (fun K hK=> ?_);go_simp;refine hK.out _ _ (fun _ _=> ?_) ?_
     ·exact⟨by simp [*,go_sem],by simp [*,go_sem],by simp [*,go_sem]⟩
     clear hK K
     (try simp only [Act.put,zD,zE,zF])
     refine nO (i:=5) (by kernel_rfl) rfl (fun K hK=> ?_);refine step_app (o:=⟨some 47,_,_,_,_,_⟩) tyZ (by rfl) _ _ (by rfl) encZ (w1.heap.size+1) V1 (t.map (·.1)) (by rfl) (TwoSt.own1 (w:=w1) (base:=w.heap.size) (B:=w1.heap.size+1) (b0:=w.heap.size) (bs:=w1.heap.size) (vl:=(Value.slice (some ⟨c,off,none⟩) l'.length cap)) (ll:=l') (V1:=V1) (V2:=V2) (U2:=V2) (L2:=(t.map (·.2))) (by(repeat (first|with_reducible exact S2.out|with_reducible refine TwoSt.alloc ?_ _|with_reducible refine TwoSt.drew ?_));done)) _ 1 [y.1] _ (by rfl) (sl_cell (by simp [*,go_sem]) (by first|omega| (simp;done) | (simp;omega))) (by first|omega| (simp;omega)) (by simp [maxLen];omega) (by first|omega| (simp;omega)) ?_;intro v4 w4 ho4 hg4 hl4 hb4 hn4;obtain⟨A4,k4,m4,rfl⟩ : ∃A k m,v4=.slice A m k:=by obtain⟨A,k,hv,_⟩:=ho4.form;exact⟨A,k,_,hv⟩
     have P4:=TwoSt.app1 (w:=w1) (base:=w.heap.size) (B:=w1.heap.size+1) (b0:=w.heap.size) (bs:=w1.heap.size) (vl:=(Value.slice (some ⟨c,off,none⟩) l'.length cap)) (ll:=l') (V1:=V1) (V2:=V2) (U2:=V2) (L2:=(t.map (·.2))) (U1:=V1) (L1:=(t.map (·.1))) (by(repeat (first|with_reducible exact S2.out|with_reducible refine TwoSt.alloc ?_ _|with_reducible refine TwoSt.drew ?_));done) hg4 ho4 hl4 hb4;have r4:=hg4.size
     try simp only [World.size_alloc,World.drew] at r4
     have G4:=grown_new hg4 wr.heap.size (fun g hg=>W1.out g hg);have x4:=bC P4.sums;have f4:=bF P4.sums;have y4:w4.cell? ⟨wr.heap.size,0,none⟩ =some (.int .i64 y.1):=(G4 wr.heap.size 0 (Nat.le_refl _) (by first|omega| (simp;omega))).trans (by simp [*,go_sem]);have b4:w4.cell? ⟨w2.heap.size,0,none⟩ =some (.int .i64 (n+y.2)):=(G4 (w2.heap.size) 0 (by omega) (by first|omega| (simp;done) | (simp;omega))).trans (by simp [*,go_sem]);have z4:w1.heap.size<w4.heap.size:=P4.size;have q4:wr.heap.size<w4.heap.size:=by have:=hg4.size;(try simp at this);omega
     clear hn4 hb4 hl4 hg4 ho4;refine hK.out _ _ (fun _ _=> ?_) ?_
     ·exact⟨by simp [*,go_sem],by simp [*,go_sem],by simp [*,go_sem]⟩
     clear hK K
     (try simp only [Act.put,zD,zE,zF])
     refine nP 11 (.pointer (some ⟨w1.heap.size,0,none⟩)) (h:= ?_)
     (try simp only [Act.put,zD,zE,zF])
     refine nO (i:=10) (by kernel_rfl) rfl (fun K hK=> ?_);refine step_app (o:=⟨some 52,_,_,_,_,_⟩) tyZ (by rfl) _ _ (by rfl) encZ (w1.heap.size+1) V2 (t.map (·.2)) (by rfl) (TwoSt.own2 (w:=w1) (base:=w.heap.size) (B:=w1.heap.size+1) (b0:=w.heap.size) (bs:=w1.heap.size) (vl:=(Value.slice (some ⟨c,off,none⟩) l'.length cap)) (ll:=l') (V1:=V1) (V2:=V2) (U1:=.slice A4 m4 k4) (L1:=(t.map (·.1)) ++ [y.1]) (by(repeat (first|with_reducible exact P4|with_reducible refine TwoSt.alloc ?_ _|with_reducible refine TwoSt.drew ?_));done)) _ 1 [(n+y.2)] _ (by rfl) (sl_cell (by simp [*,go_sem]) (by first|omega| (simp;done) | (simp;omega))) (by first|omega| (simp;omega)) (by simp [maxLen];omega) (by first|omega| (simp;omega)) ?_;intro v5 w5 ho5 hg5 hl5 hb5 hn5;obtain⟨A5,k5,m5,rfl⟩ : ∃A k m,v5=.slice A m k:=by obtain⟨A,k,hv,_⟩:=ho5.form;exact⟨A,k,_,hv⟩
     have P5:=TwoSt.app2 (w:=w1) (base:=w.heap.size) (B:=w1.heap.size+1) (b0:=w.heap.size) (bs:=w1.heap.size) (vl:=(Value.slice (some ⟨c,off,none⟩) l'.length cap)) (ll:=l') (V1:=V1) (V2:=V2) (U1:=.slice A4 m4 k4) (L1:=(t.map (·.1)) ++ [y.1]) (U2:=V2) (L2:=(t.map (·.2))) (by(repeat (first|with_reducible exact P4|with_reducible refine TwoSt.alloc ?_ _|with_reducible refine TwoSt.drew ?_));done) hg5 ho5 hl5 hb5;have r5:=hg5.size
     try simp only [World.size_alloc,World.drew] at r5
     have G5:=grown_new hg5 wr.heap.size (fun g hg=>W2.out g hg);have x5:=bC P5.sums;have f5:=bF P5.sums;have y5:w5.cell? ⟨wr.heap.size,0,none⟩ =some (.int .i64 y.1):=(G5 wr.heap.size 0 (Nat.le_refl _) (by first|omega| (simp;omega))).trans (by simp [*,go_sem]);have z5:w1.heap.size<w5.heap.size:=P5.size;have q5:wr.heap.size<w5.heap.size:=by have:=hg5.size;(try simp at this);omega
     clear hn5 hb5 hl5 hg5 ho5;refine hK.out _ _ (fun _ _=> ?_) ?_
     ·exact⟨by simp [*,go_sem],by simp [*,go_sem],by simp [*,go_sem]⟩
     clear hK K
     (try simp only [Act.put,zD,zE,zF])
     refine nO (i:=12) (by kernel_rfl) rfl (fun K hK=> ?_);go_simp;refine hK.out _ _ (fun h _=>absurd (by decide) h) ?_;clear hK K
     (try simp only [Act.put,zD,zE,zF])
     refine nP 13 (.pointer (some ⟨w1.heap.size,1,none⟩)) (h:= ?_)
     (try simp only [Act.put,zD,zE,zF])
     refine nO (i:=14) (by kernel_rfl) rfl (fun K hK=> ?_);go_simp;refine hK.out _ _ (fun h _=>absurd (by decide) h) ?_;clear hK K
     (try simp only [Act.put,zD,zE,zF])
     refine nD (by kernel_rfl) ?_ _;have E4:=P5.own1.len_le;have E5:=P5.own2.len_le;simp only [List.length_append,List.length_map,List.length_cons,List.length_nil] at E4 E5;have F4:=LH E4.1;have F5:=LH E5.1;have PF:=LH P5.st;clear E4 E5 P4 P5 G4 G5 x4 x5 f4 f5 y4 y5 z4 z5 q4 q5 r4 r5 c20 z20 cs2 cf2;refine NoPanic.normal ?_;go_wp2_with fail;go_roundw
     case rel=>exact⟨q+1,m4,m5,t ++ [(y.1,n+y.2)],A4,A5,k4,k5,by omega,by go_num,by rw [HE1.out],by have:=F4.out;simp;omega,by have:=F5.out;simp;omega,by simpa using PF.out,by rw [HTS.out];have:=KT.out.more HLE.out HNE.out;rwa [←HN.out] at this,by simp;omega⟩
     case measure=>simp [intOf];omega
   ·rw [List.concat_eq_append] at ht
    obtain⟨m,hm⟩ : ∃m,m=t'.length:=⟨_,rfl⟩;have hkm:k1=m+1:=by have:=HK1.out;rw [ht] at this;simp at this;omega
    have g1:decide (0<k1) =true:=by simp;omega
    have g2: (k1:Int) - 1= (m:Int):=by omega
    have g3: (m:Int) < (k1:Int):=by omega
    have g4:m<k1:=by omega
    have g5:m< (t.map (·.1)).length:=by rw [ht];simp;omega
    have ga: (t.map (·.1))[m] =a.1:=by simp only [ht,hm];simp
    obtain⟨b1,o1,rfl,hb1,hc1⟩:=KST.out.own1.sl.at_ g5;have e0:=hc1 0 (.int .i64 a.1) (by rw [ga];rfl);simp only [Nat.add_zero,Nat.mul_one] at e0;have g6:m< (t.map (·.2)).length:=by rw [ht];simp;omega
    obtain⟨b2,o2,rfl,hb2,hc2⟩:=KST.out.own2.sl.at_ g6;have gb: (t.map (·.2))[m] =a.2:=by simp only [ht,hm];simp
    have e8:=hc2 0 (.int .i64 a.2) (by rw [gb];rfl);simp only [Nat.add_zero,Nat.mul_one] at e8;have g7:m<k2:=by have:=kk.out;omega
    have HKM:=LH hkm;have HM:=LH hm;have HT:=LH ht;clear hc1 hc2 g5 ga gb hkm hm ht;by_cases ha:a.1=y.1
    ·have ha': (a.1 == y.1) =true:=by simpa using ha
     have HAE:=LH ha;have e9:=KST.out.own2.frozen;have hz2:b2<wr.heap.size:=hb2;clear ha;go_wp2_with fail;refine rX (by kernel_rfl) (by kernel_rfl) ?_
     repeat (go_big_quiet_step (fail))
     refine wpQuiet_nil ?_;intro w2 hb2';replace hb2':=bX hb2';have s2:=(KST.out.alloc (.cells #[.int .i64 y.1,.int .i64 y.2] 102)).below hb2';have cs2:=bC s2.sums;have cf2:=bF s2.sums;have zs2:w1.heap.size<w2.heap.size:=by have:=hb2'.size;simp at this;omega
     have z22:b2<w2.heap.size:=by have:=hb2'.size;simp at this;omega
     have c23:w2.cell? ⟨b2,o2+m,none⟩ =some (.int .i64 a.2):=(hb2'.cell (p:=⟨b2,o2+m,none⟩) (by simp;omega)).trans (by go_simp);have f22:=s2.own2.frozen;have S2:=LH s2;clear s2 hb2' cs cf g1 e0 e9 e8;go_wp2_with fail;have S3:=LH (S2.out.set2 m g6 (n+y.2));clear c23 f22 S2 cs2 cf2;go_wp2_with fail;go_roundw
     case rel=>exact⟨q+1,k1,k2,t' ++ [(y.1,n+y.2)],some ⟨b1,o1,none⟩,some ⟨b2,o2,none⟩,c1,c2,by omega,by go_num,by rw [HE1.out],by have:=HKM.out;have:=HM.out;simp;omega,by have:=HKM.out;have:=HM.out;have:=kk.out;simp;omega,by have h:=S3.out;rw [HT.out,set_last HM.out (y.1,n+y.2)] at h;have e: (t' ++ [a]).map (·.1) = (t' ++ [(y.1,n+y.2)]).map (·.1):=(by simp [HAE.out]);rwa [e] at h,by have h:=KT.out;rw [HT.out,show a= (y.1,a.2) from Prod.ext HAE.out rfl] at h;have h2:=h.same HLE.out;rw [←HN.out] at h2;rwa [HTS.out],by rw [HT.out] at htq;simp at htq⊢;omega⟩
     case measure=>simp [intOf];omega
    ·have ha': (a.1 == y.1) =false:=by simpa using ha
     have HNE:=LH (show ∀z∈t,z.1≠y.1 by rw [HT.out];exact Tab.last_ne (by rw [←HT.out];exact KT.out) HLE.out ha);clear ha;go_wp2_with fail;refine rX (by kernel_rfl) (by kernel_rfl) ?_
     repeat (go_big_quiet_step (fail))
     refine wpQuiet_nil ?_;intro w2 hb2;replace hb2:=bX hb2;have c20:=(hb2.cell (p:=⟨wr.heap.size,0,none⟩) (by simp)).trans (by go_simp:_=some (Value.int .i64 y.1));have z20:wr.heap.size<w2.heap.size:=by have:=hb2.size;simp at this;omega
     have s2:=(KST.out.alloc (.cells #[.int .i64 y.1,.int .i64 y.2] 102)).below hb2;have cs2:=bC s2.sums;have cf2:=bF s2.sums;have zs2:w1.heap.size<w2.heap.size:=by omega
     have ow1: ∀g,(Value.slice (some ⟨b1,o1,none⟩) k1 c1).ownBlock=some g→g<wr.heap.size:=fun g hg=>(KST.out.own1.lt g hg).2;have ow2: ∀g,(Value.slice (some ⟨b2,o2,none⟩) k2 c2).ownBlock=some g→g<wr.heap.size:=fun g hg=>(KST.out.own2.lt g hg).2;generalize Value.slice (some ⟨b1,o1,none⟩) k1 c1=V1 at s2 cs2 ow1⊢;generalize Value.slice (some ⟨b2,o2,none⟩) k2 c2=V2 at s2 cs2 ow2⊢;have W1:=LH ow1;have W2:=LH ow2;have S2:=LH s2;clear s2 hb2 cs cf g1 g2 g3 g4 ow1 ow2 e0 e8 g7;go_wp2_with fail;refine wp_region_noPanic ?_;refine wp_region_N (fun w'=>w'.cell? ⟨w1.heap.size,0,none⟩ =some V1∧w'.cell? ⟨w1.heap.size,1,none⟩ =some V2∧w'.cell? ⟨wr.heap.size,0,none⟩ =some (.int .i64 y.1)) [12,14] (by kernel_rfl) ⟨by simp [*,go_sem],by simp [*,go_sem],by simp [*,go_sem]⟩ (fun hHeld=> ?_);refine nP 0 (.pointer (some ⟨w1.heap.size,0,none⟩)) (h:= ?_)
     (try simp only [Act.put,zD,zE,zF])
     refine nT 1 (V1) (y:=Or.inl ⟨by rfl,fun W hW=>by obtain⟨q1,q2,q3⟩:=hW;go_simp⟩) (s:=hHeld) (h:= ?_)
     (try simp only [Act.put,zD,zE,zF])
     refine nP 2 (.pointer (some ⟨wr.heap.size,0,none⟩)) (h:= ?_)
     (try simp only [Act.put,zD,zE,zF])
     refine nT 3 (.int .i64 y.1) (y:=Or.inl ⟨by rfl,fun W hW=>by obtain⟨q1,q2,q3⟩:=hW;go_simp⟩) (s:=hHeld) (h:= ?_)
     (try simp only [Act.put,zD,zE,zF])
     refine nP 6 (.pointer (some ⟨w1.heap.size,1,none⟩)) (h:= ?_)
     (try simp only [Act.put,zD,zE,zF])
     refine nT 7 (V2) (y:=Or.inl ⟨by rfl,fun W hW=>by obtain⟨q1,q2,q3⟩:=hW;go_simp⟩) (s:=hHeld) (h:= ?_)
     (try simp only [Act.put,zD,zE,zF])
     refine nP 8 (.int .i64 (n+y.2)) (h:= ?_)
     (try simp only [Act.put,zD,zE,zF])
     clear hHeld;refine wpAnyN_two (i:=4) (k:=9) (by kernel_rfl) rfl rfl (fun K hK=> ?_) (fun K hK=> ?_)
     ·skip
      go_simp;refine hK.out _ _ (fun _ _=> ?_) ?_
      ·exact⟨by simp [*,go_sem],by simp [*,go_sem],by simp [*,go_sem]⟩
      clear hK K
      (try simp only [Act.put,zD,zE,zF])
      refine wpAnyN_two (i:=5) (k:=9) (by kernel_rfl) rfl rfl (fun K hK=> ?_) (fun K hK=> ?_)
      ·skip
       refine step_app (o:=⟨some 47,_,_,_,_,_⟩) tyZ (by rfl) _ _ (by rfl) encZ (w1.heap.size+1) V1 (t.map (·.1)) (by rfl) (TwoSt.own1 (w:=w1) (base:=w.heap.size) (B:=w1.heap.size+1) (b0:=w.heap.size) (bs:=w1.heap.size) (vl:=(Value.slice (some ⟨c,off,none⟩) l'.length cap)) (ll:=l') (V1:=V1) (V2:=V2) (U2:=V2) (L2:=(t.map (·.2))) (by(repeat (first|with_reducible exact S2.out|with_reducible refine TwoSt.alloc ?_ _|with_reducible refine TwoSt.drew ?_));done)) _ 1 [y.1] _ (by rfl) (sl_cell (by simp [*,go_sem]) (by first|omega| (simp;done) | (simp;omega))) (by first|omega| (simp;omega)) (by simp [maxLen];omega) (by first|omega| (simp;omega)) ?_;intro v4 w4 ho4 hg4 hl4 hb4 hn4;obtain⟨A4,k4,m4,rfl⟩ : ∃A k m,v4=.slice A m k:=by obtain⟨A,k,hv,_⟩:=ho4.form;exact⟨A,k,_,hv⟩
       have P4:=TwoSt.app1 (w:=w1) (base:=w.heap.size) (B:=w1.heap.size+1) (b0:=w.heap.size) (bs:=w1.heap.size) (vl:=(Value.slice (some ⟨c,off,none⟩) l'.length cap)) (ll:=l') (V1:=V1) (V2:=V2) (U2:=V2) (L2:=(t.map (·.2))) (U1:=V1) (L1:=(t.map (·.1))) (by(repeat (first|with_reducible exact S2.out|with_reducible refine TwoSt.alloc ?_ _|with_reducible refine TwoSt.drew ?_));done) hg4 ho4 hl4 hb4;have r4:=hg4.size
       try simp only [World.size_alloc,World.drew] at r4
       have G4:=grown_new hg4 wr.heap.size (fun g hg=>W1.out g hg);have x4:=bC P4.sums;have f4:=bF P4.sums;have y4:w4.cell? ⟨wr.heap.size,0,none⟩ =some (.int .i64 y.1):=(G4 wr.heap.size 0 (Nat.le_refl _) (by first|omega| (simp;omega))).trans (by simp [*,go_sem]);have z4:w1.heap.size<w4.heap.size:=P4.size;have q4:wr.heap.size<w4.heap.size:=by have:=hg4.size;(try simp at this);omega
       clear hn4 hb4 hl4 hg4 ho4;refine hK.out _ _ (fun _ _=> ?_) ?_
       ·exact⟨by simp [*,go_sem],by simp [*,go_sem],by simp [*,go_sem]⟩
       clear hK K
       (try simp only [Act.put,zD,zE,zF])
       refine nP 11 (.pointer (some ⟨w1.heap.size,0,none⟩)) (h:= ?_)
       (try simp only [Act.put,zD,zE,zF])
       refine nO (i:=9) (by kernel_rfl) rfl (fun K hK=> ?_);go_simp;refine hK.out _ _ (fun _ _=> ?_) ?_
       ·exact⟨by simp [*,go_sem],by simp [*,go_sem],by simp [*,go_sem]⟩
       clear hK K
       (try simp only [Act.put,zD,zE,zF])
       refine nO (i:=10) (by kernel_rfl) rfl (fun K hK=> ?_);refine step_app (o:=⟨some 52,_,_,_,_,_⟩) tyZ (by rfl) _ _ (by rfl) encZ (w1.heap.size+1) V2 (t.map (·.2)) (by rfl) (TwoSt.own2 (w:=w1) (base:=w.heap.size) (B:=w1.heap.size+1) (b0:=w.heap.size) (bs:=w1.heap.size) (vl:=(Value.slice (some ⟨c,off,none⟩) l'.length cap)) (ll:=l') (V1:=V1) (V2:=V2) (U1:=.slice A4 m4 k4) (L1:=(t.map (·.1)) ++ [y.1]) (by(repeat (first|with_reducible exact P4|with_reducible refine TwoSt.alloc ?_ _|with_reducible refine TwoSt.drew ?_));done)) _ 1 [(n+y.2)] _ (by rfl) (sl_cell (by simp [*,go_sem]) (by first|omega| (simp;done) | (simp;omega))) (by first|omega| (simp;omega)) (by simp [maxLen];omega) (by first|omega| (simp;omega)) ?_;intro v5 w5 ho5 hg5 hl5 hb5 hn5;obtain⟨A5,k5,m5,rfl⟩ : ∃A k m,v5=.slice A m k:=by obtain⟨A,k,hv,_⟩:=ho5.form;exact⟨A,k,_,hv⟩
       have P5:=TwoSt.app2 (w:=w1) (base:=w.heap.size) (B:=w1.heap.size+1) (b0:=w.heap.size) (bs:=w1.heap.size) (vl:=(Value.slice (some ⟨c,off,none⟩) l'.length cap)) (ll:=l') (V1:=V1) (V2:=V2) (U1:=.slice A4 m4 k4) (L1:=(t.map (·.1)) ++ [y.1]) (U2:=V2) (L2:=(t.map (·.2))) (by(repeat (first|with_reducible exact P4|with_reducible refine TwoSt.alloc ?_ _|with_reducible refine TwoSt.drew ?_));done) hg5 ho5 hl5 hb5;have r5:=hg5.size
       try simp only [World.size_alloc,World.drew] at r5
       have G5:=grown_new hg5 wr.heap.size (fun g hg=>W2.out g hg);have x5:=bC P5.sums;have f5:=bF P5.sums;have y5:w5.cell? ⟨wr.heap.size,0,none⟩ =some (.int .i64 y.1):=(G5 wr.heap.size 0 (Nat.le_refl _) (by first|omega| (simp;omega))).trans (by simp [*,go_sem]);have z5:w1.heap.size<w5.heap.size:=P5.size;have q5:wr.heap.size<w5.heap.size:=by have:=hg5.size;(try simp at this);omega
       clear hn5 hb5 hl5 hg5 ho5;refine hK.out _ _ (fun _ _=> ?_) ?_
       ·exact⟨by simp [*,go_sem],by simp [*,go_sem],by simp [*,go_sem]⟩
       clear hK K
       (try simp only [Act.put,zD,zE,zF])
       refine nO (i:=12) (by kernel_rfl) rfl (fun K hK=> ?_);go_simp;refine hK.out _ _ (fun h _=>absurd (by decide) h) ?_;clear hK K
       (try simp only [Act.put,zD,zE,zF])
       refine nP 13 (.pointer (some ⟨w1.heap.size,1,none⟩)) (h:= ?_)
       (try simp only [Act.put,zD,zE,zF])
       refine nO (i:=14) (by kernel_rfl) rfl (fun K hK=> ?_);go_simp;refine hK.out _ _ (fun h _=>absurd (by decide) h) ?_;clear hK K
       (try simp only [Act.put,zD,zE,zF])
       refine nD (by kernel_rfl) ?_ _;have E4:=P5.own1.len_le;have E5:=P5.own2.len_le;simp only [List.length_append,List.length_map,List.length_cons,List.length_nil] at E4 E5;have F4:=LH E4.1;have F5:=LH E5.1;have PF:=LH P5.st;clear E4 E5 P4 P5 G4 G5 x4 x5 f4 f5 y4 y5 z4 z5 q4 q5 r4 r5 c20 z20 cs2 cf2;refine NoPanic.normal ?_;go_wp2_with fail;go_roundw
       case rel=>exact⟨q+1,m4,m5,t ++ [(y.1,n+y.2)],A4,A5,k4,k5,by omega,by go_num,by rw [HE1.out],by have:=F4.out;simp;omega,by have:=F5.out;simp;omega,by simpa using PF.out,by rw [HTS.out];have:=KT.out.more HLE.out HNE.out;rwa [←HN.out] at this,by simp;omega⟩
       case measure=>simp [intOf];omega
      ·skip
       go_simp;refine hK.out _ _ (fun _ _=> ?_) ?_
       ·exact⟨by simp [*,go_sem],by simp [*,go_sem],by simp [*,go_sem]⟩
       clear hK K
       (try simp only [Act.put,zD,zE,zF])
       refine nO (i:=5) (by kernel_rfl) rfl (fun K hK=> ?_);refine step_app (o:=⟨some 47,_,_,_,_,_⟩) tyZ (by rfl) _ _ (by rfl) encZ (w1.heap.size+1) V1 (t.map (·.1)) (by rfl) (TwoSt.own1 (w:=w1) (base:=w.heap.size) (B:=w1.heap.size+1) (b0:=w.heap.size) (bs:=w1.heap.size) (vl:=(Value.slice (some ⟨c,off,none⟩) l'.length cap)) (ll:=l') (V1:=V1) (V2:=V2) (U2:=V2) (L2:=(t.map (·.2))) (by(repeat (first|with_reducible exact S2.out|with_reducible refine TwoSt.alloc ?_ _|with_reducible refine TwoSt.drew ?_));done)) _ 1 [y.1] _ (by rfl) (sl_cell (by simp [*,go_sem]) (by first|omega| (simp;done) | (simp;omega))) (by first|omega| (simp;omega)) (by simp [maxLen];omega) (by first|omega| (simp;omega)) ?_;intro v4 w4 ho4 hg4 hl4 hb4 hn4;obtain⟨A4,k4,m4,rfl⟩ : ∃A k m,v4=.slice A m k:=by obtain⟨A,k,hv,_⟩:=ho4.form;exact⟨A,k,_,hv⟩
       have P4:=TwoSt.app1 (w:=w1) (base:=w.heap.size) (B:=w1.heap.size+1) (b0:=w.heap.size) (bs:=w1.heap.size) (vl:=(Value.slice (some ⟨c,off,none⟩) l'.length cap)) (ll:=l') (V1:=V1) (V2:=V2) (U2:=V2) (L2:=(t.map (·.2))) (U1:=V1) (L1:=(t.map (·.1))) (by(repeat (first|with_reducible exact S2.out|with_reducible refine TwoSt.alloc ?_ _|with_reducible refine TwoSt.drew ?_));done) hg4 ho4 hl4 hb4;have r4:=hg4.size
       try simp only [World.size_alloc,World.drew] at r4
       have G4:=grown_new hg4 wr.heap.size (fun g hg=>W1.out g hg);have x4:=bC P4.sums;have f4:=bF P4.sums;have y4:w4.cell? ⟨wr.heap.size,0,none⟩ =some (.int .i64 y.1):=(G4 wr.heap.size 0 (Nat.le_refl _) (by first|omega| (simp;omega))).trans (by simp [*,go_sem]);have b4:w4.cell? ⟨w2.heap.size+1,0,none⟩ =some (.int .i64 (n+y.2)):=(G4 (w2.heap.size+1) 0 (by omega) (by first|omega| (simp;done) | (simp;omega))).trans (by simp [*,go_sem]);have z4:w1.heap.size<w4.heap.size:=P4.size;have q4:wr.heap.size<w4.heap.size:=by have:=hg4.size;(try simp at this);omega
       clear hn4 hb4 hl4 hg4 ho4;refine hK.out _ _ (fun _ _=> ?_) ?_
       ·exact⟨by simp [*,go_sem],by simp [*,go_sem],by simp [*,go_sem]⟩
       clear hK K
       (try simp only [Act.put,zD,zE,zF])
       refine nP 11 (.pointer (some ⟨w1.heap.size,0,none⟩)) (h:= ?_)
       (try simp only [Act.put,zD,zE,zF])
       refine nO (i:=10) (by kernel_rfl) rfl (fun K hK=> ?_);refine step_app (o:=⟨some 52,_,_,_,_,_⟩) tyZ (by rfl) _ _ (by rfl) encZ (w1.heap.size+1) V2 (t.map (·.2)) (by rfl) (TwoSt.own2 (w:=w1) (base:=w.heap.size) (B:=w1.heap.size+1) (b0:=w.heap.size) (bs:=w1.heap.size) (vl:=(Value.slice (some ⟨c,off,none⟩) l'.length cap)) (ll:=l') (V1:=V1) (V2:=V2) (U1:=.slice A4 m4 k4) (L1:=(t.map (·.1)) ++ [y.1]) (by(repeat (first|with_reducible exact P4|with_reducible refine TwoSt.alloc ?_ _|with_reducible refine TwoSt.drew ?_));done)) _ 1 [(n+y.2)] _ (by rfl) (sl_cell (by simp [*,go_sem]) (by first|omega| (simp;done) | (simp;omega))) (by first|omega| (simp;omega)) (by simp [maxLen];omega) (by first|omega| (simp;omega)) ?_;intro v5 w5 ho5 hg5 hl5 hb5 hn5;obtain⟨A5,k5,m5,rfl⟩ : ∃A k m,v5=.slice A m k:=by obtain⟨A,k,hv,_⟩:=ho5.form;exact⟨A,k,_,hv⟩
       have P5:=TwoSt.app2 (w:=w1) (base:=w.heap.size) (B:=w1.heap.size+1) (b0:=w.heap.size) (bs:=w1.heap.size) (vl:=(Value.slice (some ⟨c,off,none⟩) l'.length cap)) (ll:=l') (V1:=V1) (V2:=V2) (U1:=.slice A4 m4 k4) (L1:=(t.map (·.1)) ++ [y.1]) (U2:=V2) (L2:=(t.map (·.2))) (by(repeat (first|with_reducible exact P4|with_reducible refine TwoSt.alloc ?_ _|with_reducible refine TwoSt.drew ?_));done) hg5 ho5 hl5 hb5;have r5:=hg5.size
       try simp only [World.size_alloc,World.drew] at r5
       have G5:=grown_new hg5 wr.heap.size (fun g hg=>W2.out g hg);have x5:=bC P5.sums;have f5:=bF P5.sums;have y5:w5.cell? ⟨wr.heap.size,0,none⟩ =some (.int .i64 y.1):=(G5 wr.heap.size 0 (Nat.le_refl _) (by first|omega| (simp;omega))).trans (by simp [*,go_sem]);have z5:w1.heap.size<w5.heap.size:=P5.size;have q5:wr.heap.size<w5.heap.size:=by have:=hg5.size;(try simp at this);omega
       clear hn5 hb5 hl5 hg5 ho5;refine hK.out _ _ (fun _ _=> ?_) ?_
       ·exact⟨by simp [*,go_sem],by simp [*,go_sem],by simp [*,go_sem]⟩
       clear hK K
       (try simp only [Act.put,zD,zE,zF])
       refine nO (i:=12) (by kernel_rfl) rfl (fun K hK=> ?_);go_simp;refine hK.out _ _ (fun h _=>absurd (by decide) h) ?_;clear hK K
       (try simp only [Act.put,zD,zE,zF])
       refine nP 13 (.pointer (some ⟨w1.heap.size,1,none⟩)) (h:= ?_)
       (try simp only [Act.put,zD,zE,zF])
       refine nO (i:=14) (by kernel_rfl) rfl (fun K hK=> ?_);go_simp;refine hK.out _ _ (fun h _=>absurd (by decide) h) ?_;clear hK K
       (try simp only [Act.put,zD,zE,zF])
       refine nD (by kernel_rfl) ?_ _;have E4:=P5.own1.len_le;have E5:=P5.own2.len_le;simp only [List.length_append,List.length_map,List.length_cons,List.length_nil] at E4 E5;have F4:=LH E4.1;have F5:=LH E5.1;have PF:=LH P5.st;clear E4 E5 P4 P5 G4 G5 x4 x5 f4 f5 y4 y5 z4 z5 q4 q5 r4 r5 c20 z20 cs2 cf2;refine NoPanic.normal ?_;go_wp2_with fail;go_roundw
       case rel=>exact⟨q+1,m4,m5,t ++ [(y.1,n+y.2)],A4,A5,k4,k5,by omega,by go_num,by rw [HE1.out],by have:=F4.out;simp;omega,by have:=F5.out;simp;omega,by simpa using PF.out,by rw [HTS.out];have:=KT.out.more HLE.out HNE.out;rwa [←HN.out] at this,by simp;omega⟩
       case measure=>simp [intOf];omega
     ·skip
      go_simp;refine hK.out _ _ (fun _ _=> ?_) ?_
      ·exact⟨by simp [*,go_sem],by simp [*,go_sem],by simp [*,go_sem]⟩
      clear hK K
      (try simp only [Act.put,zD,zE,zF])
      refine nO (i:=4) (by kernel_rfl) rfl (fun K hK=> ?_);go_simp;refine hK.out _ _ (fun _ _=> ?_) ?_
      ·exact⟨by simp [*,go_sem],by simp [*,go_sem],by simp [*,go_sem]⟩
      clear hK K
      (try simp only [Act.put,zD,zE,zF])
      refine nO (i:=5) (by kernel_rfl) rfl (fun K hK=> ?_);refine step_app (o:=⟨some 47,_,_,_,_,_⟩) tyZ (by rfl) _ _ (by rfl) encZ (w1.heap.size+1) V1 (t.map (·.1)) (by rfl) (TwoSt.own1 (w:=w1) (base:=w.heap.size) (B:=w1.heap.size+1) (b0:=w.heap.size) (bs:=w1.heap.size) (vl:=(Value.slice (some ⟨c,off,none⟩) l'.length cap)) (ll:=l') (V1:=V1) (V2:=V2) (U2:=V2) (L2:=(t.map (·.2))) (by(repeat (first|with_reducible exact S2.out|with_reducible refine TwoSt.alloc ?_ _|with_reducible refine TwoSt.drew ?_));done)) _ 1 [y.1] _ (by rfl) (sl_cell (by simp [*,go_sem]) (by first|omega| (simp;done) | (simp;omega))) (by first|omega| (simp;omega)) (by simp [maxLen];omega) (by first|omega| (simp;omega)) ?_;intro v4 w4 ho4 hg4 hl4 hb4 hn4;obtain⟨A4,k4,m4,rfl⟩ : ∃A k m,v4=.slice A m k:=by obtain⟨A,k,hv,_⟩:=ho4.form;exact⟨A,k,_,hv⟩
      have P4:=TwoSt.app1 (w:=w1) (base:=w.heap.size) (B:=w1.heap.size+1) (b0:=w.heap.size) (bs:=w1.heap.size) (vl:=(Value.slice (some ⟨c,off,none⟩) l'.length cap)) (ll:=l') (V1:=V1) (V2:=V2) (U2:=V2) (L2:=(t.map (·.2))) (U1:=V1) (L1:=(t.map (·.1))) (by(repeat (first|with_reducible exact S2.out|with_reducible refine TwoSt.alloc ?_ _|with_reducible refine TwoSt.drew ?_));done) hg4 ho4 hl4 hb4;have r4:=hg4.size
      try simp only [World.size_alloc,World.drew] at r4
      have G4:=grown_new hg4 wr.heap.size (fun g hg=>W1.out g hg);have x4:=bC P4.sums;have f4:=bF P4.sums;have y4:w4.cell? ⟨wr.heap.size,0,none⟩ =some (.int .i64 y.1):=(G4 wr.heap.size 0 (Nat.le_refl _) (by first|omega| (simp;omega))).trans (by simp [*,go_sem]);have b4:w4.cell? ⟨w2.heap.size,0,none⟩ =some (.int .i64 (n+y.2)):=(G4 (w2.heap.size) 0 (by omega) (by first|omega| (simp;done) | (simp;omega))).trans (by simp [*,go_sem]);have z4:w1.heap.size<w4.heap.size:=P4.size;have q4:wr.heap.size<w4.heap.size:=by have:=hg4.size;(try simp at this);omega
      clear hn4 hb4 hl4 hg4 ho4;refine hK.out _ _ (fun _ _=> ?_) ?_
      ·exact⟨by simp [*,go_sem],by simp [*,go_sem],by simp [*,go_sem]⟩
      clear hK K
      (try simp only [Act.put,zD,zE,zF])
      refine nP 11 (.pointer (some ⟨w1.heap.size,0,none⟩)) (h:= ?_)
      (try simp only [Act.put,zD,zE,zF])
      refine nO (i:=10) (by kernel_rfl) rfl (fun K hK=> ?_);refine step_app (o:=⟨some 52,_,_,_,_,_⟩) tyZ (by rfl) _ _ (by rfl) encZ (w1.heap.size+1) V2 (t.map (·.2)) (by rfl) (TwoSt.own2 (w:=w1) (base:=w.heap.size) (B:=w1.heap.size+1) (b0:=w.heap.size) (bs:=w1.heap.size) (vl:=(Value.slice (some ⟨c,off,none⟩) l'.length cap)) (ll:=l') (V1:=V1) (V2:=V2) (U1:=.slice A4 m4 k4) (L1:=(t.map (·.1)) ++ [y.1]) (by(repeat (first|with_reducible exact P4|with_reducible refine TwoSt.alloc ?_ _|with_reducible refine TwoSt.drew ?_));done)) _ 1 [(n+y.2)] _ (by rfl) (sl_cell (by simp [*,go_sem]) (by first|omega| (simp;done) | (simp;omega))) (by first|omega| (simp;omega)) (by simp [maxLen];omega) (by first|omega| (simp;omega)) ?_;intro v5 w5 ho5 hg5 hl5 hb5 hn5;obtain⟨A5,k5,m5,rfl⟩ : ∃A k m,v5=.slice A m k:=by obtain⟨A,k,hv,_⟩:=ho5.form;exact⟨A,k,_,hv⟩
      have P5:=TwoSt.app2 (w:=w1) (base:=w.heap.size) (B:=w1.heap.size+1) (b0:=w.heap.size) (bs:=w1.heap.size) (vl:=(Value.slice (some ⟨c,off,none⟩) l'.length cap)) (ll:=l') (V1:=V1) (V2:=V2) (U1:=.slice A4 m4 k4) (L1:=(t.map (·.1)) ++ [y.1]) (U2:=V2) (L2:=(t.map (·.2))) (by(repeat (first|with_reducible exact P4|with_reducible refine TwoSt.alloc ?_ _|with_reducible refine TwoSt.drew ?_));done) hg5 ho5 hl5 hb5;have r5:=hg5.size
      try simp only [World.size_alloc,World.drew] at r5
      have G5:=grown_new hg5 wr.heap.size (fun g hg=>W2.out g hg);have x5:=bC P5.sums;have f5:=bF P5.sums;have y5:w5.cell? ⟨wr.heap.size,0,none⟩ =some (.int .i64 y.1):=(G5 wr.heap.size 0 (Nat.le_refl _) (by first|omega| (simp;omega))).trans (by simp [*,go_sem]);have z5:w1.heap.size<w5.heap.size:=P5.size;have q5:wr.heap.size<w5.heap.size:=by have:=hg5.size;(try simp at this);omega
      clear hn5 hb5 hl5 hg5 ho5;refine hK.out _ _ (fun _ _=> ?_) ?_
      ·exact⟨by simp [*,go_sem],by simp [*,go_sem],by simp [*,go_sem]⟩
      clear hK K
      (try simp only [Act.put,zD,zE,zF])
      refine nO (i:=12) (by kernel_rfl) rfl (fun K hK=> ?_);go_simp;refine hK.out _ _ (fun h _=>absurd (by decide) h) ?_;clear hK K
      (try simp only [Act.put,zD,zE,zF])
      refine nP 13 (.pointer (some ⟨w1.heap.size,1,none⟩)) (h:= ?_)
      (try simp only [Act.put,zD,zE,zF])
      refine nO (i:=14) (by kernel_rfl) rfl (fun K hK=> ?_);go_simp;refine hK.out _ _ (fun h _=>absurd (by decide) h) ?_;clear hK K
      (try simp only [Act.put,zD,zE,zF])
      refine nD (by kernel_rfl) ?_ _;have E4:=P5.own1.len_le;have E5:=P5.own2.len_le;simp only [List.length_append,List.length_map,List.length_cons,List.length_nil] at E4 E5;have F4:=LH E4.1;have F5:=LH E5.1;have PF:=LH P5.st;clear E4 E5 P4 P5 G4 G5 x4 x5 f4 f5 y4 y5 z4 z5 q4 q5 r4 r5 c20 z20 cs2 cf2;refine NoPanic.normal ?_;go_wp2_with fail;go_roundw
      case rel=>exact⟨q+1,m4,m5,t ++ [(y.1,n+y.2)],A4,A5,k4,k5,by omega,by go_num,by rw [HE1.out],by have:=F4.out;simp;omega,by have:=F5.out;simp;omega,by simpa using PF.out,by rw [HTS.out];have:=KT.out.more HLE.out HNE.out;rwa [←HN.out] at this,by simp;omega⟩
      case measure=>simp [intOf];omega
  ·obtain rfl:q=l'.length:=by omega
   rw [List.take_length] at KT;have ct:=bC hst.zero;have cft:=bF hst.zero;have zt:=lB hst.zero;clear hst htab;subst hk1;subst hk2;go_wp2_with fail;refine bR (v:=.agg #[.slice A1 t.length c1,.slice A2 t.length c2]) (by simp only [results,Tryz.results127];go_simp) rfl ⟨t,A1,c1,A2,c2,rfl,KT.out.perm HP.out,by have:=HLen.out;omega,?_,?_,?_⟩
   ·exact((KST.out.own1.setCellB (by simp only;omega)).setCellB (by simp only;omega)).base_le (by omega)
   ·exact((KST.out.own2.setCellB (by simp only;omega)).setCellB (by simp only;omega)).base_le (by omega)
   ·have hB:=(KST.out.blw.setCell (p:=⟨w.heap.size,0,none⟩) (Nat.le_refl _) (.slice A1 t.length c1)).setCell (p:=⟨w.heap.size,1,none⟩) (Nat.le_refl _) (.slice A2 t.length c2)
    have hA:Below w.heap.size w (w.alloc (.cells #[.slice none 0 0,.slice none 0 0] 210)):=(Below.refl _ _).alloc (Nat.le_refl _) _;exact turn_then hA HTu.out hB
def betw (l:Int) (r:List Nd) (a b:Int) :Int×Int×Int:=if b<a then (0,0,2) else (betwLow l r a b,betwHigh l r a b,0)
def share (l:Int) (r:List Nd) (a b d:Int) :Int×Int×Int:=
 if sumR r=0 then (0,0,7) else if d<1∨b<a then (0,0,2) else (((betwLow l r a b).toNat*d.toNat / (sumR r).toNat:Nat),(upV (betwHigh l r a b).toNat d.toNat (sumR r).toNat:Nat),0)
def bothV (t:Int×Int×Int) :Value:=.tuple #[.agg #[.int .i64 t.1,.int .i64 t.2.1],.int .i64 t.2.2]
def upT (t:List Nd) (x:Int) :Int:=if atMost t x=0 then 0 else (t.getD (atMost t x - 1) (0,0)).2
theorem Tab.upT {l t:List Nd} (h:Tab l t) (x:Int) :upT t x=wUp l x:=by
 unfold Go.Proofs.YtlgnakobjkhmhaaGreatDoor.upT;by_cases h0:atMost t x=0
 ·rw [if_pos h0,h.none h0]
 ·have hi:atMost t x - 1<t.length:=by have:=atMost_le t x;omega
  rw [if_neg h0,getD_at hi,h.some h0 hi]
theorem upTo_closure (W:World) (b2 b3 i n c2 blk off:Nat) (v2:Value) (x y:Int) (hi:i<n) (hn:n≤67108864) (h2:W.cell? ⟨b2,0,none⟩ =some (.slice (some ⟨blk,off,none⟩) n c2)) (h3:W.cell? ⟨b3,0,none⟩ =some (.int .i64 x)) (h4:W.cell? ⟨blk,off+i,none⟩ =some (.int .i64 y)) :
 Calls Tryz.prog 295 (#[.int .i64 i] ++ #[.pointer (some ⟨b2,0,none⟩),.pointer (some ⟨b3,0,none⟩)]) W fun e w'=>e=.returned (.bool (decide (x<y)))∧∃q os,w'=Go.Sort.grow (W.drewN q) os:=by
 have hi1: (i:Int) < (n:Int):=by omega
 go_enter Tryz.func295,Tryz.ntmps295
 go_wp2_with fail
 go_region
 all_goals go_wp2_with fail
 all_goals go_ret
 all_goals exact⟨rfl,1, #[],by rw [Go.Sort.grow_empty];rfl⟩
theorem enters_upTo: ∀args W,(callFunc 295 args).run Tryz.prog W=.ok (.enter 295 args) W:=enters_of Tryz.func295 (by kernel_rfl) rfl
theorem rise_mono {t:List Nd} (hr:t.Pairwise fun a b=>a.1<b.1) (x:Int) (a b:Nat) (hab:a≤b) (hb:b<t.length) (h:decide (x< (t.getD a (0,0)).1) =true) :decide (x< (t.getD b (0,0)).1) =true:=by
 rw [getD_at (by omega)] at h;rw [getD_at hb];simp only [decide_eq_true_eq] at h⊢;rcases Nat.lt_or_ge a b with hlt|hge
 ·have:=List.pairwise_iff_getElem.1 hr a b (by omega) hb hlt;omega
 ·obtain rfl:a=b:=by omega
  exact h
theorem sums_upTo (w:World) (A1 A2:Option Addr) (c1 c2:Nat) (t:List Nd) (x:Int) (h1:Sl w w.heap.size encZ A1 (t.map (·.1))) (h2:Sl w w.heap.size encZ A2 (t.map (·.2))) (hm:t.length≤67108864) (hr:t.Pairwise fun a b=>a.1<b.1) :
 Calls Tryz.prog 241 #[.agg #[.slice A1 t.length c1,.slice A2 t.length c2],.int .i64 x] w fun e w'=>e=.returned (.int .i64 (upT t x))∧Below w.heap.size w w':=by
 obtain⟨W0,hW0⟩ : ∃W0,W0= (w.alloc (.cells #[.slice A1 t.length c1,.slice A2 t.length c2] 210)).alloc (.cells #[.int .i64 x] 3):=⟨_,rfl⟩;have hsz:W0.heap.size=w.heap.size+1+1:=by rw [hW0];simp
 have B0:Below w.heap.size w W0:=by rw [hW0];exact bE
 have k0:W0.cell? ⟨w.heap.size,0,none⟩ =some (.slice A1 t.length c1):=by rw [hW0];go_simp
 have k1:W0.cell? ⟨w.heap.size,1,none⟩ =some (.slice A2 t.length c2):=by rw [hW0];go_simp
 have k2:W0.cell? ⟨w.heap.size+1,0,none⟩ =some (.int .i64 x):=by rw [hW0];go_simp
 have hS:=Go.Proofs.Any.sort_Search Tryz.search 295 #[.pointer (some ⟨w.heap.size,0,none⟩),.pointer (some ⟨w.heap.size+1,0,none⟩)] t.length (fun i=>decide (x< (t.getD i (0,0)).1)) W0 enters_upTo (by omega)
  (fun m os i hi=>by
    rw [getD_at hi];rcases h1 with h1| ⟨blk,off,rfl,hb,hc⟩
    ·have:t.length=0:=by have:=congrArg List.length h1;simpa using this
     omega
    ·have hc':=hc i t[i].1 (by simp [hi]) 0 (.int .i64 t[i].1) rfl
     simp only [Nat.add_zero,Nat.mul_one] at hc';refine upTo_closure _ w.heap.size (w.heap.size+1) i t.length c1 blk off undef x t[i].1 hi hm (Go.cell_grown (by simp only [hsz];omega) k0 m os) (Go.cell_grown (by simp only [hsz];omega) k2 m os) (Go.cell_grown (by simp only [hsz];omega) ((B0.cell (p:=⟨blk,off+i,none⟩) hb).trans hc') m os))
  (rise_mono hr x)
 have HS:Hid (Calls Tryz.prog 294 #[.int .i64 t.length,.func (.func 295) #[] #[.pointer (some ⟨w.heap.size,0,none⟩),.pointer (some ⟨w.heap.size+1,0,none⟩)]] W0 fun e w'=>e=.returned (.int .i64 (atMost t x))∧∃q os,w'=Go.Sort.grow (W0.drewN q) os):=LH hS;have hle:=atMost_le t x;have H2:=LH h2;have HW:=LH hW0;have K1:=LH k1;have HB0:=LH B0;have HZ:=LH hsz;clear hS h1 h2 hr k0 k1 k2 B0 hsz hW0;unfold upT;generalize hk:atMost t x=k at HS hle⊢;clear hk;by_cases hk0:k=0
 ·subst hk0
  rw [if_pos rfl]
  go_enter Tryz.func241,Tryz.ntmps241
  go_wp2_with fail;rw [←HW.out];refine HS.out.mono ?_;rintro e w1 ⟨rfl,q,os,rfl⟩;go_wp2_with fail;go_ret;exact⟨rfl,HB0.out.trans (Go.Proofs.below_grown_sl w.heap.size W0 q os (by have:=HZ.out;omega))⟩
 ·rw [if_neg hk0]
  obtain⟨m,rfl⟩ : ∃m,k=m+1:=⟨k - 1,by omega⟩;simp only [Nat.add_sub_cancel];have hm1:m<t.length:=by omega
  rw [getD_at hm1];have g0: ((m+1:Nat) == 0) =false:=by simp
  have g2: (m:Int) < (t.length:Int):=by omega
  obtain⟨blk,off,rfl,hb,hc⟩:=H2.out.at_ (k:=m) (by simpa using hm1);have hc':=hc 0 (.int .i64 t[m].2) (by simp [encZ]);simp only [Nat.add_zero,Nat.mul_one] at hc';generalize t[m].2=z at hc'⊢;clear hc
  go_enter Tryz.func241,Tryz.ntmps241
  go_wp2_with fail;rw [←HW.out];refine HS.out.mono ?_;rintro e w1 ⟨rfl,q,os,hw1⟩;have hB1:Below w.heap.size w w1:=by rw [hw1];exact HB0.out.trans (Go.Proofs.below_grown_sl w.heap.size W0 q os (by have:=HZ.out;omega))
  have c1':w1.cell? ⟨w.heap.size,1,none⟩ =some (.slice (some ⟨blk,off,none⟩) t.length c2):=by rw [hw1];exact Go.cell_grown (by have:=HZ.out;simp only;omega) K1.out q os
  have c2':=(hB1.cell (p:=⟨blk,off+m,none⟩) hb).trans hc';clear hw1 hc';go_wp2_with fail;go_ret;exact⟨rfl,hB1⟩




def bagV (l:Int) (A:Option Addr) (n cap:Nat) :Value:=.agg #[.int .i64 l,.slice A n cap]
def putL:List Nd→Int→Int→Bool→List Nd
 | [],x,c,d=>if d=true then [] else [(x,c)]
 |z :: m,x,c,d=>if z.1=x then (z.1,z.2+c) :: putL m x c true else if x<z.1∧d=false then (x,c) :: z :: putL m x c true else z :: putL m x c d
end Go.Proofs.YtlgnakobjkhmhaaGreatDoor
