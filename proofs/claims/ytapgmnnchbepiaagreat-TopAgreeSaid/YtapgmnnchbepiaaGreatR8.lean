/-
  Texts of this proof, one behind the other: Wire, TopThrough, GapEnds, Order, Gap, GapTurn, DigCells, MemTwo, SortO, SortZ, GapIter, GapStops, GapApart, GapRef, Bits, Ref20Sum, Ref20Mean, Alive20, BoundSumsW, GapBoth, GapAt, GapParts, GapMost, GapTurn2, GapMostY, Alive16, RankRisesW, Tells, TopAgreeW.
-/
import Derived.Lib.SlicesCompact
import Derived.Test.YtapgmnnchbepiaaGreatShelf
import Derived.Deep.RegionWith
import Derived.Deep.DeepCutAuto
import Derived.Test.YtapgmnnchbepiaaGreatR2
import Derived.Test.YtapgmnnchbepiaaGreatR3
import Derived.Test.YtapgmnnchbepiaaGreatR4
import Derived.Test.YtapgmnnchbepiaaGreatR5
import Derived.Test.YtapgmnnchbepiaaGreatR6
import Derived.Test.YtapgmnnchbepiaaGreatR7
set_option linter.unusedVariables false
set_option linter.unusedSimpArgs false
set_option maxRecDepth 100000
set_option maxHeartbeats 16000000
namespace Go.Proofs.YtapgmnnchbepiaaGreat
open Go.ChangeShapes Go.WideShapes Go.ChangeAt Go.RowKit
theorem vary_Put0 (w:World) (base:Nat) (v:Value) (ho:Own w base 3 encZ v []) :Calls Tryz.prog 71 #[v] w fun e w'=>e=.returned (.tuple #[.string ⟨#[]⟩,.int .i64 0])∧Below w.heap.size w w':=by
 obtain⟨A,c,rfl,_⟩:=ho.form;clear ho;simp only [List.length_nil];have hcv: ∀W,(convert 134 9 (.slice none 0 0)).run Tryz.prog W=.ok (.string ⟨#[]⟩) W:=fun W=>by kernel_rfl
 go_enter Tryz.func71,Tryz.ntmps71
 go_wp2_with fail
 go_loopw [4,9] (fun u j wr=>j=.int .i64 (0:Nat)∧u=.slice none 0 0∧Below w.heap.size w wr) (fun _ j _=>0)
 case atStart=>exact⟨rfl,rfl,Below.refl _ _⟩
 case round=>
  obtain⟨rfl,rfl,hB⟩:=hrel;have HB:=LH hB;clear hB;have hc:=hcv wr;go_wp2_with fail
  all_goals exact bR (v:=.tuple #[.string ⟨#[]⟩,.int .i64 0]) (by simp only [results,Tryz.results71];go_simp) rfl ⟨rfl,HB.out⟩
theorem vary_PutC (w:World) (base:Nat) (v:Value) (L:List Int) (ho:Own w base 3 encZ v L) (hi: ∀x∈L,i64 x∧0≤x) (hl:L.length≤65536) :
 Calls Tryz.prog 71 #[v] w fun e w'=>e=.returned (.tuple #[.string ⟨(putB L).toArray⟩,.int .i64 0])∧Below w.heap.size w w':=by
 cases L with
 |nil=>exact vary_Put0 w base v ho
 |cons x L=>
  refine(vary_Put w base v (x :: L) ho (fun y hy=>(hi y hy).1) hl (by simp)).mono ?_;rintro e w' ⟨⟨t,he,ht⟩,hb⟩;have hal: (x :: L).all (fun y=>decide (0≤y)) =true:=List.all_eq_true.2 fun y hy=>by simpa using (hi y hy).2
  rw [if_pos hal] at he;exact⟨by rw [he,ht hal],hb⟩
structure TwoL (B:Nat) (w3:World) (U1:Value) (L1:List Int) (U2:Value) (L2:List Int) (W:World) :Prop where
 o1:Own W B 3 encZ U1 L1
 o2:Own W B 3 encZ U2 L2
 sep:Sep U1 U2
 b:Below B w3 W
 size:B≤W.heap.size
section
variable {B:Nat} {w3:World} {U1 U1' U2 U2':Value} {L1 L1' L2 L2':List Int} {W W':World}
theorem TwoL.below (h:TwoL B w3 U1 L1 U2 L2 W) (hb:Below W.heap.size W W') :TwoL B w3 U1 L1 U2 L2 W':=⟨h.o1.below hb,h.o2.below hb,h.sep,h.b.trans (hb.mono h.size),Nat.le_trans h.size hb.size⟩
theorem TwoL.alloc (h:TwoL B w3 U1 L1 U2 L2 W) (o:Obj) :TwoL B w3 U1 L1 U2 L2 (W.alloc o):=h.below ((Below.refl _ _).alloc (Nat.le_refl _) o)
theorem TwoL.drew (h:TwoL B w3 U1 L1 U2 L2 W) :TwoL B w3 U1 L1 U2 L2 W.drew:=h.below (Below.refl _ _).drew
theorem TwoL.app1 (h:TwoL B w3 U1 L1 U2 L2 W) (hg:W.grownBy W' U1.ownBlock) (ho:Own W' B 3 encZ U1' L1') (hl:U1'.ownBlock=U1.ownBlock∨U1'.ownBlock=some W.heap.size) (hb:Below B W W') :TwoL B w3 U1' L1' U2 L2 W':=
 ⟨ho,h.o2.kept hg (by
  cases e:U2.ownBlock with
  |none=>exact .inl rfl
  |some g=>exact .inr fun he=>h.sep g (by rw [←he]) e),fun g h1 h2=>by
   rcases hl with hl|hl
   ·exact h.sep g (hl ▸ h1) h2
   ·rw [hl] at h1;cases h1;exact absurd (h.o2.lt _ h2).2 (Nat.lt_irrefl _),h.b.trans hb,Nat.le_trans h.size hb.size⟩
theorem TwoL.swap (h:TwoL B w3 U1 L1 U2 L2 W) :TwoL B w3 U2 L2 U1 L1 W:=⟨h.o2,h.o1,h.sep.symm,h.b,h.size⟩
theorem TwoL.app2 (h:TwoL B w3 U1 L1 U2 L2 W) (hg:W.grownBy W' U2.ownBlock) (ho:Own W' B 3 encZ U2' L2') (hl:U2'.ownBlock=U2.ownBlock∨U2'.ownBlock=some W.heap.size) (hb:Below B W W') :TwoL B w3 U1 L1 U2' L2' W':=(h.swap.app1 hg ho hl hb).swap
end
structure OffB (x:Nat) (o:Obj) (U1 U2:Value) (W:World) :Prop where
 h:W.heap[x]? =some o
 n1:U1.ownBlock≠some x
 n2:U2.ownBlock≠some x
section
variable {x:Nat} {o:Obj} {U1 U1' U2 U2':Value} {W W':World}
theorem OffB.below (h:OffB x o U1 U2 W) (hb:Below W.heap.size W W') :OffB x o U1 U2 W':=⟨bB h.h hb,h.n1,h.n2⟩
theorem OffB.alloc (h:OffB x o U1 U2 W) (p:Obj) :OffB x o U1 U2 (W.alloc p):=h.below ((Below.refl _ _).alloc (Nat.le_refl _) p)
theorem OffB.drew (h:OffB x o U1 U2 W) :OffB x o U1 U2 W.drew:=⟨h.h,h.n1,h.n2⟩
theorem OffB.app1 (h:OffB x o U1 U2 W) (hg:W.grownBy W' U1.ownBlock) (hl:U1'.ownBlock=U1.ownBlock∨U1'.ownBlock=some W.heap.size) :OffB x o U1' U2 W':=
 ⟨blk_grown_not h.h hg h.n1,fun e=>by
  rcases hl with hl|hl
  ·exact h.n1 (hl ▸ e)
  ·rw [hl] at e;cases e;exact absurd (lB h.h) (Nat.lt_irrefl _),h.n2⟩
theorem OffB.swap (h:OffB x o U1 U2 W) :OffB x o U2 U1 W:=⟨h.h,h.n2,h.n1⟩
theorem OffB.app2 (h:OffB x o U1 U2 W) (hg:W.grownBy W' U2.ownBlock) (hl:U2'.ownBlock=U2.ownBlock∨U2'.ownBlock=some W.heap.size) :OffB x o U1 U2' W':=(h.swap.app1 hg hl).swap
theorem OffB.new {B:Nat} {w3:World} {L1 L2:List Int} (h:TwoL B w3 U1 L1 U2 L2 W) (cs:Array Value) (t:TypeId) :OffB W.heap.size (.cells cs t (0,0)) U1 U2 (W.alloc (.cells cs t)):=
 ⟨heap_alloc_new W _,h.o1.not_at _ (Nat.le_refl _),h.o2.not_at _ (Nat.le_refl _)⟩
end
theorem sl_one {W:World} {b t:Nat} {x:Int} (h:W.heap[b]? =some (.cells #[.int .i64 x] t (0,0))) :Sl W W.heap.size encZ (some ⟨b,0,none⟩) [x]:=sl_cell (by rw [bC h];rfl) (lB h)
theorem back1 (W:World) (a:UInt8) (n:Nat) (hn:n=W.heap.size) :
 (convert 134 9 (.slice (some ⟨n,0,none⟩) 1 1)).run Tryz.prog (W.alloc (.cells #[.int .u8 (a.toNat:Int)] 5)) =.ok (.string ⟨[a].toArray⟩) (W.alloc (.cells #[.int .u8 (a.toNat:Int)] 5)):=by
 subst hn;refine run_convert_bytes_back (P:=Tryz.prog) _ 134 9 5 ⟨W.heap.size,0,none⟩ 1 [a] Tryz.underlying134 Tryz.underlying5 Tryz.underlying9 ?_;intro j hj;rw [show Addr.add ⟨W.heap.size,0,none⟩ j= ⟨W.heap.size,j,none⟩ by unfold Addr.add;split <;> simp_all];rw [World.cell?_alloc_mark];simp only [List.length_cons,List.length_nil] at hj
 match j,hj with
 |0,_=>rfl
structure WireF (l:Nat) (k:Int) (r:List Nd) :Prop where
 up:risesOk (r.map (·.1)) =true
 ids: ∀x∈r.map (·.1),i64 x
 cts: ∀x∈r.map (·.2),i64 x∧0≤x
 hd: ∀x∈ [k,sumR r],i64 x∧0≤x
 l1: (putB [k,sumR r]).length≤18
 l2: (risesB (r.map (·.1))).length≤9+9*r.length
 l3: (putB (r.map (·.2))).length≤9*r.length
theorem steps_ok: ∀{L:List Int} {p:Int},(p :: L).Pairwise (· < ·)→(List.zipWith (fun x q=>x - q) L (p :: L)).all (fun d=>decide (0<d)) =true:=by
 intro L
 induction L with
 |nil=>intro p _;simp
 |cons x L ih=>
  intro p h;obtain⟨h1,h2⟩:=List.pairwise_cons.1 h;have:=h1 x (by simp);simp only [List.zipWith_cons_cons,List.all_cons,Bool.and_eq_true,decide_eq_true_eq];exact⟨by omega,ih h2⟩
theorem steps_le: ∀{L:List Int} {p:Int},0≤p→(p :: L).Pairwise (· < ·)→(∀x∈L,x≤9223372036854775807)→∀d∈List.zipWith (fun x q=>x - q) L (p :: L),d≤9223372036854775807:=by
 intro L
 induction L with
 |nil=>intro p _ _ _ d hd;simp at hd
 |cons x L ih=>
  intro p hp h hx d hd;obtain⟨h1,h2⟩:=List.pairwise_cons.1 h;have:=h1 x (by simp);have:=hx x (by simp);simp only [List.zipWith_cons_cons,List.mem_cons] at hd;rcases hd with rfl|hd
  ·omega
  ·exact ih (by omega) h2 (fun y hy=>hx y (by simp [hy])) d hd
theorem WireF.of {l:Nat} {k:Int} {r:List Nd} (hl:1≤l∧l≤48) (hf:Fits l r) (hk:1≤k) (hk2:k≤1048576) (hn:r.length≤60000) :WireF l k r:=by
 have hs0:=sumR_nonneg hf.roll;have hs1:=hf.sum
 have hup: ((0:Int) :: r.map (·.1)).Pairwise (· < ·):=by
  refine List.pairwise_cons.2 ⟨?_,?_⟩
  ·intro x hx
   obtain⟨y,hy,rfl⟩:=List.mem_map.1 hx;have:=(hf.roll.2 y hy).1;omega
  ·rw [List.pairwise_map];exact hf.roll.1
 have hi: ∀x∈r.map (·.1),i64 x:=by
  intro x hx;obtain⟨y,hy,rfl⟩:=List.mem_map.1 hx;have h1:=isNode_lt (hf.nodes hl y hy);have h2:=pow_48 hl.2
  constructor <;> omega
 have hc: ∀x∈r.map (·.2),i64 x∧0≤x:=by
  intro x hx;obtain⟨y,hy,rfl⟩:=List.mem_map.1 hx;have h1:=(hf.roll.2 y hy).2;have h2:=getR_le_sum hf.roll y.1;rw [getR_mem hf.roll hy] at h2;exact⟨by constructor <;> omega,by omega⟩
 have hh: ∀x∈ [k,sumR r],i64 x∧0≤x:=by
  intro x hx;simp only [List.mem_cons,List.not_mem_nil,or_false] at hx;rcases hx with rfl|rfl
  ·exact⟨by constructor <;> omega,by omega⟩
  ·exact⟨by constructor <;> omega,by omega⟩
 refine⟨steps_ok hup,hi,hc,hh,?_,?_,?_⟩
 ·exact putB_len (L:= [k,sumR r]) fun x hx=>(hh x hx).1.2
 ·have h1:=putB_len (L:=stepD (r.map (·.1))) (steps_le (Int.le_refl 0) hup fun x hx=>(hi x hx).2)
  have h2:=oneB_le (n:=(r.map (·.1)).length) (by simp;omega);unfold risesB;rw [stepD_len] at h1;simp only [List.length_append,List.length_map] at h1 h2⊢;omega
 ·have:=putB_len (L:=r.map (·.2)) fun x hx=>(hc x hx).1.2
  simpa using this
theorem map_take {r:List Nd} {q:Nat} {y:Nd} (h:q<r.length) (hy:r[q] =y) : (r.take (q+1)).map (·.1) = (r.take q).map (·.1) ++ [y.1]∧(r.take (q+1)).map (·.2) = (r.take q).map (·.2) ++ [y.2]:=by
 rw [List.take_succ_eq_append_getElem h,hy];simp
theorem wire_Encode (w:World) (g K l:Nat) (k:Int) (r:List Nd) (F:Nat→Prop) (h:DigAt w g K l k r F) (hn:r.length≤60000) :
 Calls Tryz.prog 23 #[.pointer (some ⟨g,0,none⟩)] w fun e w'=>e=.returned (.tuple #[.string ⟨(wireT l k r).toArray⟩,.int .i64 0])∧Below w.heap.size w w':=by
 have HD:=LH h;have hll:=h.l_le;have hk:1≤k∧k≤1048576:=by obtain⟨p,F0,_,_,_,_,h1,h2⟩:=h.parts;exact⟨h1,h2⟩
 have HC:=LH (digest_Conf w g K l k r F h);have HF:=LH h.fits;obtain⟨G,hG⟩ : ∃G,G=wireT l k r:=⟨_,rfl⟩;rw [←hG];have HG:=LH hG;clear h hG
 go_enter Tryz.func23,Tryz.ntmps23
 go_wp2_with fail;refine HC.out.mono ?_;rintro e w1 ⟨rfl,hb1⟩;have X2:=LH (heap_alloc_new w1 (.cells #[.int .i64 l,.int .i64 k,.int .i64 K] 23));have B2:Hid (Below w.heap.size w (w1.alloc (.cells #[.int .i64 l,.int .i64 k,.int .i64 K] 23))):=LH bE;have D2:=LH (HD.out.below B2.out);clear HC hb1;go_upto_region 5 with fail;generalize w1.alloc (.cells #[.int .i64 l,.int .i64 k,.int .i64 K] 23) =w2 at X2 B2 D2⊢;go_wp2_with fail;refine(digest_Nodes w2 g K l k r F D2.out (by omega)).mono ?_;rintro e w3 ⟨v,rfl,ho,hb3⟩;obtain⟨A,cap,rfl,_⟩:=ho.form;have O3:=LH ho;have X3:=LH (bB X2.out hb3);have D3:=LH (D2.out.below hb3);have B3:=LH (Below.then_ B2.out hb3);obtain⟨B,hBe⟩ : ∃B,B=w3.heap.size:=⟨_,rfl⟩;have HBe:=LH hBe;have TS:Hid (TwoL B w3 (.slice none 0 0) [] (.slice none 0 0) [] w3):=LH ⟨Own.nil _ _ _ _,Own.nil _ _ _ _,(fun g h1=>by cases h1),Below.refl _ _,by omega⟩;clear ho hb3 D2 X2 B2 hBe;go_wp2_with fail
 go_loopw [5,6,22] (fun V1 V2 j wr=>∃q:Nat,q≤r.length∧j=.int .i64 q∧TwoL B w3 V1 ((r.take q).map (·.1)) V2 ((r.take q).map (·.2)) wr) (fun _ _ j _=>r.length - (intOf j).toNat)
 case atStart=>exact⟨0,Nat.zero_le _,rfl,by simpa using TS.out⟩
 case round=>
  obtain⟨q,hq,rfl,hT⟩:=hrel;have KT:=LH hT;have hBw:=hT.size;have OR:=LH (O3.out.sl.keep (B':=wr.heap.size) (by have:=HBe.out;omega) fun p hp=>hT.b.cell (by have:=HBe.out;omega));clear hT;by_cases hlt:q<r.length
  ·have hqi: (q:Int) < (r.length:Int):=by omega
   obtain⟨b,off,rfl,hb,hc⟩:=OR.out.at_ hlt;have d0:=hc 0 (.int .i64 r[q].1) rfl;have d1:=hc 1 (.int .i64 r[q].2) rfl;simp only [Nat.add_zero] at d0;obtain⟨y,hy⟩ : ∃y,r[q] =y:=⟨_,rfl⟩;have HT1:=LH (map_take hlt hy).1;have HT2:=LH (map_take hlt hy).2;rw [hy] at d0 d1;have T0:=LH (KT.out.alloc (.cells #[.int .i64 y.1,.int .i64 y.2] 77));have N0:=LH (OffB.new KT.out #[.int .i64 y.1,.int .i64 y.2] 77);clear hc hy;go_upto_region 8 with fail;generalize wr.alloc (.cells #[.int .i64 y.1,.int .i64 y.2] 77) =Wa at T0 N0⊢;replace T0:=LH T0.out.drew;replace N0:=LH N0.out.drew;refine wp_region_noPanic ?_;refine wp_region_N (fun w'=>w'.heap[wr.heap.size]? =some (.cells #[.int .i64 y.1,.int .i64 y.2] 77 (0,0))) [] (by kernel_rfl) (N0.out.h) (fun hHeld=> ?_);generalize Wa.drew=Wd at T0 N0 hHeld⊢;refine nP 0 (u5) (h:= ?_)
   (try simp only [zA,zB,zC,Act.put,zD,zE,zF])
   refine nP 1 (Value.pointer (some ⟨wr.heap.size,0,none⟩)) (h:= ?_)
   (try simp only [zA,zB,zC,Act.put,zD,zE,zF])
   refine nT 2 (Value.int .i64 y.1) (y:=Or.inl ⟨by rfl,fun W hW=>by have q1:=bC hW;have q2:=lB hW;go_simp⟩) (s:=N0.out.h) (h:= ?_)
   (try simp only [zA,zB,zC,Act.put,zD,zE,zF])
   refine nP 5 (u6) (h:= ?_)
   (try simp only [zA,zB,zC,Act.put,zD,zE,zF])
   refine nP 6 (Value.pointer (some ⟨wr.heap.size,1,none⟩)) (h:= ?_)
   (try simp only [zA,zB,zC,Act.put,zD,zE,zF])
   refine nT 7 (Value.int .i64 y.2) (y:=Or.inl ⟨by rfl,fun W hW=>by have q1:=bC hW;have q2:=lB hW;go_simp⟩) (s:=N0.out.h) (h:= ?_)
   (try simp only [zA,zB,zC,Act.put,zD,zE,zF])
   clear hHeld;refine wpAnyN_two (i:=3) (k:=8) (by kernel_rfl) rfl rfl (fun K hK=> ?_) (fun K hK=> ?_)
   ·skip
    go_simp;refine hK.out _ _ (fun _ hS=>bB hS ((Below.refl _ _).alloc (Nat.le_refl _) _)) ?_;clear hK K
    (try simp only [zA,zB,zC,Act.put,zD,zE,zF])
    have L1:=LH (OffB.new T0.out #[.int .i64 y.1] 3);have T1:=LH (T0.out.alloc (.cells #[.int .i64 y.1] 3));have N1:=LH (N0.out.alloc (.cells #[.int .i64 y.1] 3));have hs1:Wd.heap.size< (Wd.alloc (.cells #[.int .i64 y.1] 3)).heap.size:=by simp
    generalize Wd.alloc (.cells #[.int .i64 y.1] 3) =W1 at L1 T1 N1 hs1⊢;refine wpAnyN_two (i:=4) (k:=8) (by kernel_rfl) rfl rfl (fun K hK=> ?_) (fun K hK=> ?_)
    ·skip
     refine step_app (o:=⟨some 30,_,_,_,_,_⟩) tyZ (by rfl) _ _ (by rfl) encZ B u5 ((r.take q).map (·.1)) (by rfl) T1.out.o1 _ 1 [y.1] _ (by rfl) (sl_one L1.out.h) (by simp only [List.length_map,List.length_take,List.length_append,List.length_cons,List.length_nil];omega) (by simp only [maxLen,List.length_map,List.length_take,List.length_append,List.length_cons,List.length_nil];omega) T1.out.size ?_;intro v2 W2 ho2 hg2 hl2 hb2 hn2;refine hK.out _ _ (fun _ hS=>blk_grown_not hS hg2 N1.out.n1) ?_;clear hK K
     (try simp only [zA,zB,zC,Act.put,zD,zE,zF])
     have T2:=LH (T1.out.app1 hg2 ho2 hl2 hb2);have N2:=LH (N1.out.app1 hg2 hl2);clear ho2 hg2 hl2 hb2 hn2;refine nO (i:=8) (by kernel_rfl) rfl (fun K hK=> ?_);go_simp;refine hK.out _ _ (fun _ hS=>bB hS ((Below.refl _ _).alloc (Nat.le_refl _) _)) ?_;clear hK K
     (try simp only [zA,zB,zC,Act.put,zD,zE,zF])
     have L3:=LH (OffB.new T2.out #[.int .i64 y.2] 3);have T3:=LH (T2.out.alloc (.cells #[.int .i64 y.2] 3));have N3:=LH (N2.out.alloc (.cells #[.int .i64 y.2] 3));have M3:=LH (L1.out.alloc (.cells #[.int .i64 y.2] 3));have hs3:W2.heap.size< (W2.alloc (.cells #[.int .i64 y.2] 3)).heap.size:=by simp
     generalize W2.alloc (.cells #[.int .i64 y.2] 3) =W3 at L3 T3 N3 M3 hs3⊢;refine nO (i:=9) (by kernel_rfl) rfl (fun K hK=> ?_);refine step_app (o:=⟨some 35,_,_,_,_,_⟩) tyZ (by rfl) _ _ (by rfl) encZ B u6 ((r.take q).map (·.2)) (by rfl) T3.out.o2 _ 1 [y.2] _ (by rfl) (sl_one L3.out.h) (by simp only [List.length_map,List.length_take,List.length_append,List.length_cons,List.length_nil];omega) (by simp only [maxLen,List.length_map,List.length_take,List.length_append,List.length_cons,List.length_nil];omega) T3.out.size ?_;intro v4 W4 ho4 hg4 hl4 hb4 hn4;refine hK.out _ _ (fun _ hS=>blk_grown_not hS hg4 N3.out.n2) ?_;clear hK K
     (try simp only [zA,zB,zC,Act.put,zD,zE,zF])
     have T4:=LH (T3.out.app2 hg4 ho4 hl4 hb4);have N4:=LH (N3.out.app2 hg4 hl4);clear ho4 hg4 hl4 hb4 hn4;refine nP 10 (v2) (h:= ?_)
     (try simp only [zA,zB,zC,Act.put,zD,zE,zF])
     refine nO (i:=11) (by kernel_rfl) rfl (fun K hK=> ?_);go_simp;refine hK.out _ _ (fun _ _=>N4.out.h) ?_;clear hK K
     (try simp only [zA,zB,zC,Act.put,zD,zE,zF])
     refine nD (by kernel_rfl) ?_ _;refine NoPanic.normal ?_;have HE:=LH T4.out;obtain⟨A1,c1,e1,_⟩:=HE.out.o1.form;obtain⟨A2,c2,e2,_⟩:=HE.out.o2.form;go_wp2_with fail;go_roundw
     case rel=>exact⟨q+1,by omega,by go_num,by rw [HT1.out,HT2.out];exact HE.out⟩
     case measure=>simp [intOf];omega
    ·skip
     go_simp;refine hK.out _ _ (fun _ hS=>bB hS ((Below.refl _ _).alloc (Nat.le_refl _) _)) ?_;clear hK K
     (try simp only [zA,zB,zC,Act.put,zD,zE,zF])
     have L5:=LH (OffB.new T1.out #[.int .i64 y.2] 3);have T5:=LH (T1.out.alloc (.cells #[.int .i64 y.2] 3));have N5:=LH (N1.out.alloc (.cells #[.int .i64 y.2] 3));have M5:=LH (L1.out.alloc (.cells #[.int .i64 y.2] 3));have hs5:W1.heap.size< (W1.alloc (.cells #[.int .i64 y.2] 3)).heap.size:=by simp
     generalize W1.alloc (.cells #[.int .i64 y.2] 3) =W5 at L5 T5 N5 M5 hs5⊢;refine nO (i:=4) (by kernel_rfl) rfl (fun K hK=> ?_);refine step_app (o:=⟨some 30,_,_,_,_,_⟩) tyZ (by rfl) _ _ (by rfl) encZ B u5 ((r.take q).map (·.1)) (by rfl) T5.out.o1 _ 1 [y.1] _ (by rfl) (sl_one M5.out.h) (by simp only [List.length_map,List.length_take,List.length_append,List.length_cons,List.length_nil];omega) (by simp only [maxLen,List.length_map,List.length_take,List.length_append,List.length_cons,List.length_nil];omega) T5.out.size ?_;intro v6 W6 ho6 hg6 hl6 hb6 hn6;refine hK.out _ _ (fun _ hS=>blk_grown_not hS hg6 N5.out.n1) ?_;clear hK K
     (try simp only [zA,zB,zC,Act.put,zD,zE,zF])
     have T6:=LH (T5.out.app1 hg6 ho6 hl6 hb6);have N6:=LH (N5.out.app1 hg6 hl6);have M6:=LH (L5.out.app1 hg6 hl6);clear ho6 hg6 hl6 hb6 hn6;refine nO (i:=9) (by kernel_rfl) rfl (fun K hK=> ?_);refine step_app (o:=⟨some 35,_,_,_,_,_⟩) tyZ (by rfl) _ _ (by rfl) encZ B u6 ((r.take q).map (·.2)) (by rfl) T6.out.o2 _ 1 [y.2] _ (by rfl) (sl_one M6.out.h) (by simp only [List.length_map,List.length_take,List.length_append,List.length_cons,List.length_nil];omega) (by simp only [maxLen,List.length_map,List.length_take,List.length_append,List.length_cons,List.length_nil];omega) T6.out.size ?_;intro v7 W7 ho7 hg7 hl7 hb7 hn7;refine hK.out _ _ (fun _ hS=>blk_grown_not hS hg7 N6.out.n2) ?_;clear hK K
     (try simp only [zA,zB,zC,Act.put,zD,zE,zF])
     have T7:=LH (T6.out.app2 hg7 ho7 hl7 hb7);have N7:=LH (N6.out.app2 hg7 hl7);clear ho7 hg7 hl7 hb7 hn7;refine nP 10 (v6) (h:= ?_)
     (try simp only [zA,zB,zC,Act.put,zD,zE,zF])
     refine nO (i:=11) (by kernel_rfl) rfl (fun K hK=> ?_);go_simp;refine hK.out _ _ (fun _ _=>N7.out.h) ?_;clear hK K
     (try simp only [zA,zB,zC,Act.put,zD,zE,zF])
     refine nD (by kernel_rfl) ?_ _;refine NoPanic.normal ?_;have HE:=LH T7.out;obtain⟨A1,c1,e1,_⟩:=HE.out.o1.form;obtain⟨A2,c2,e2,_⟩:=HE.out.o2.form;go_wp2_with fail;go_roundw
     case rel=>exact⟨q+1,by omega,by go_num,by rw [HT1.out,HT2.out];exact HE.out⟩
     case measure=>simp [intOf];omega
   ·skip
    go_simp;refine hK.out _ _ (fun _ hS=>bB hS ((Below.refl _ _).alloc (Nat.le_refl _) _)) ?_;clear hK K
    (try simp only [zA,zB,zC,Act.put,zD,zE,zF])
    have L8:=LH (OffB.new T0.out #[.int .i64 y.2] 3);have T8:=LH (T0.out.alloc (.cells #[.int .i64 y.2] 3));have N8:=LH (N0.out.alloc (.cells #[.int .i64 y.2] 3));have hs8:Wd.heap.size< (Wd.alloc (.cells #[.int .i64 y.2] 3)).heap.size:=by simp
    generalize Wd.alloc (.cells #[.int .i64 y.2] 3) =W8 at L8 T8 N8 hs8⊢;refine nO (i:=3) (by kernel_rfl) rfl (fun K hK=> ?_);go_simp;refine hK.out _ _ (fun _ hS=>bB hS ((Below.refl _ _).alloc (Nat.le_refl _) _)) ?_;clear hK K
    (try simp only [zA,zB,zC,Act.put,zD,zE,zF])
    have L9:=LH (OffB.new T8.out #[.int .i64 y.1] 3);have T9:=LH (T8.out.alloc (.cells #[.int .i64 y.1] 3));have N9:=LH (N8.out.alloc (.cells #[.int .i64 y.1] 3));have M9:=LH (L8.out.alloc (.cells #[.int .i64 y.1] 3));have hs9:W8.heap.size< (W8.alloc (.cells #[.int .i64 y.1] 3)).heap.size:=by simp
    generalize W8.alloc (.cells #[.int .i64 y.1] 3) =W9 at L9 T9 N9 M9 hs9⊢;refine nO (i:=4) (by kernel_rfl) rfl (fun K hK=> ?_);refine step_app (o:=⟨some 30,_,_,_,_,_⟩) tyZ (by rfl) _ _ (by rfl) encZ B u5 ((r.take q).map (·.1)) (by rfl) T9.out.o1 _ 1 [y.1] _ (by rfl) (sl_one L9.out.h) (by simp only [List.length_map,List.length_take,List.length_append,List.length_cons,List.length_nil];omega) (by simp only [maxLen,List.length_map,List.length_take,List.length_append,List.length_cons,List.length_nil];omega) T9.out.size ?_;intro v10 W10 ho10 hg10 hl10 hb10 hn10;refine hK.out _ _ (fun _ hS=>blk_grown_not hS hg10 N9.out.n1) ?_;clear hK K
    (try simp only [zA,zB,zC,Act.put,zD,zE,zF])
    have T10:=LH (T9.out.app1 hg10 ho10 hl10 hb10);have N10:=LH (N9.out.app1 hg10 hl10);have M10:=LH (M9.out.app1 hg10 hl10);clear ho10 hg10 hl10 hb10 hn10;refine nO (i:=9) (by kernel_rfl) rfl (fun K hK=> ?_);refine step_app (o:=⟨some 35,_,_,_,_,_⟩) tyZ (by rfl) _ _ (by rfl) encZ B u6 ((r.take q).map (·.2)) (by rfl) T10.out.o2 _ 1 [y.2] _ (by rfl) (sl_one M10.out.h) (by simp only [List.length_map,List.length_take,List.length_append,List.length_cons,List.length_nil];omega) (by simp only [maxLen,List.length_map,List.length_take,List.length_append,List.length_cons,List.length_nil];omega) T10.out.size ?_;intro v11 W11 ho11 hg11 hl11 hb11 hn11;refine hK.out _ _ (fun _ hS=>blk_grown_not hS hg11 N10.out.n2) ?_;clear hK K
    (try simp only [zA,zB,zC,Act.put,zD,zE,zF])
    have T11:=LH (T10.out.app2 hg11 ho11 hl11 hb11);have N11:=LH (N10.out.app2 hg11 hl11);clear ho11 hg11 hl11 hb11 hn11;refine nP 10 (v10) (h:= ?_)
    (try simp only [zA,zB,zC,Act.put,zD,zE,zF])
    refine nO (i:=11) (by kernel_rfl) rfl (fun K hK=> ?_);go_simp;refine hK.out _ _ (fun _ _=>N11.out.h) ?_;clear hK K
    (try simp only [zA,zB,zC,Act.put,zD,zE,zF])
    refine nD (by kernel_rfl) ?_ _;refine NoPanic.normal ?_;have HE:=LH T11.out;obtain⟨A1,c1,e1,_⟩:=HE.out.o1.form;obtain⟨A2,c2,e2,_⟩:=HE.out.o2.form;go_wp2_with fail;go_roundw
    case rel=>exact⟨q+1,by omega,by go_num,by rw [HT1.out,HT2.out];exact HE.out⟩
    case measure=>simp [intOf];omega
  ·obtain rfl:q=r.length:=by omega
   rw [List.take_length] at KT;have hTb:Below w3.heap.size w3 wr:=HBe.out ▸ KT.out.b;have X4:=LH (bB X3.out hTb);have X5:=LH (show wr.drew.heap[w1.heap.size]? =_ from X4.out);have D5:=LH ((D3.out.below hTb).below (w':=wr.drew) bE);have B5:=LH ((Below.then_ B3.out hTb).drew);obtain⟨A1,c1,rfl,_⟩:=KT.out.o1.form;obtain⟨A2,c2,rfl,_⟩:=KT.out.o2.form;have O51:=LH (KT.out.o1.drew);have O52:=LH (KT.out.o2.drew);simp only [List.length_map] at O51 O52;have HW:=LH (WireF.of hll HF.out hk.1 hk.2 hn);have hlw:=HW.out.l1;have hlr:=HW.out.l2;have hlc:=HW.out.l3
   have HPt:Hid (∀W n,W.heap.size=n→Calls Tryz.prog 71 #[.slice (some ⟨n,0,none⟩) 2 2] (W.alloc (.cells #[.int .i64 k,.int .i64 (sumR r)] 3)) fun e w'=>e=.returned (.tuple #[.string ⟨(putB [k,sumR r]).toArray⟩,.int .i64 0])∧Below W.heap.size W w'):=LH (fun W n hn=>by
    subst hn;refine(vary_PutC _ _ _ [k,sumR r] (Own.lit W encZ [k,sumR r] 3 (Nat.le_refl _) (by simp [maxLen])) HW.out.hd (by simp)).mono ?_;rintro e w' ⟨he,hb⟩;exact⟨he,((Below.refl W.heap.size W).alloc (Nat.le_refl _) _).trans (hb.mono (by simp))⟩)
   have HRi:=LH (fun W h=>vary_Rises W B (.slice A1 (r.map (·.1)).length c1) (r.map (·.1)) h HW.out.ids (by simp;omega) HW.out.up);have HPc:=LH (fun W h=>vary_PutC W B (.slice A2 (r.map (·.2)).length c2) (r.map (·.2)) h HW.out.cts (by simp;omega));obtain⟨a,ha⟩ : ∃a,a=UInt8.ofNat l:=⟨_,rfl⟩;have hal: (a.toNat:Int) = (l:Int):=by rw [ha,UInt8.toNat_ofNat'];omega
   have hg:=HG.out;unfold wireT at hg;rw [←ha] at hg;obtain⟨P1,hP1⟩ : ∃P1,P1=putB [k,sumR r]:=⟨_,rfl⟩;obtain⟨R1,hR1⟩ : ∃R1,R1=risesB (r.map (·.1)):=⟨_,rfl⟩;obtain⟨C1,hC1⟩ : ∃C1,C1=putB (r.map (·.2)):=⟨_,rfl⟩;rw [←hP1] at HPt hlw hg;rw [←hR1] at HRi hlr hg;rw [←hC1] at HPc hlc hg;have hc1:=fun W=>run_string_add_lists (P:=Tryz.prog) W [68,87,80,1] [a] (by simp) (by simp);obtain⟨U1,hU1⟩ : ∃U1:List UInt8,U1= [68,87,80,1] ++ [a]:=⟨_,rfl⟩;have lU1:U1.length=5:=by rw [hU1];rfl
   rw [←hU1] at hc1 hg;have hc2:=fun W=>run_string_add_lists (P:=Tryz.prog) W U1 P1 (by omega) (by omega);obtain⟨U2,hU2⟩ : ∃U2,U2=U1 ++ P1:=⟨_,rfl⟩;have lU2:U2.length≤23:=by rw [hU2,List.length_append];omega
   rw [←hU2] at hc2 hg;have hc3:=fun W=>run_string_add_lists (P:=Tryz.prog) W U2 R1 (by omega) (by omega);obtain⟨U3,hU3⟩ : ∃U3,U3=U2 ++ R1:=⟨_,rfl⟩;have lU3:U3.length≤32+9*r.length:=by rw [hU3,List.length_append];omega
   rw [←hU3] at hc3 hg;have hc4:=fun W=>run_string_add_lists (P:=Tryz.prog) W U3 C1 (by omega) (by omega);obtain⟨U4,hU4⟩ : ∃U4,U4=U3 ++ C1:=⟨_,rfl⟩;have lU4:U4.length≤8000000:=by rw [hU4,List.length_append];omega
   rw [←hU4] at hc4 hg;have HSe:=LH (fun W=>seal_Seal W U4 lU4);have hcv:=fun W=>back1 W a W.heap.size rfl;rw [hal] at hcv;clear hal;rw [←hg] at HSe;simp only [List.length_map] at HRi HPc;clear hg hP1 hR1 hC1 hU1 hU2 hU3 hU4 lU1 lU2 lU3 lU4 hlw hlr hlc HW ha KT hTb OR hBw X3 D3 B3;go_upto_region 10 with fail;refine wp_region_noPanic ?_;refine wp_region_N (fun w'=>w'.heap[w1.heap.size]? =some (.cells #[.int .i64 l,.int .i64 k,.int .i64 K] 23 (0,0))) [] (by kernel_rfl) (X4.out) (fun hHeld=> ?_);generalize wr.drew=Wd at X5 D5 B5 O51 O52 hHeld⊢;refine nP 0 (Value.pointer (some ⟨w1.heap.size,1,none⟩)) (h:= ?_)
   (try simp only [zA,zB,zC,Act.put,zD,zE,zF])
   refine nT 1 (Value.int .i64 k) (y:=Or.inl ⟨by rfl,fun W hW=>by have q1:=bC hW;have q2:=lB hW;go_simp⟩) (s:=X5.out) (h:= ?_)
   (try simp only [zA,zB,zC,Act.put,zD,zE,zF])
   refine nP 2 (Value.pointer (some ⟨g,0,none⟩)) (h:= ?_)
   (try simp only [zA,zB,zC,Act.put,zD,zE,zF])
   refine nO (i:=3) (by kernel_rfl) rfl (fun K hK=> ?_);go_simp;refine(digest_N _ g _ l k r F D5.out).mono ?_;rintro e w5 ⟨rfl,hb5⟩;have X6:=LH (bB X5.out hb5);have B6:=LH (Below.then_ B5.out hb5);have O61:=LH (O51.out.below hb5);have O62:=LH (O52.out.below hb5);clear hb5;refine hK.out _ _ (fun _ _=>X6.out) ?_;clear hK K
   (try simp only [zA,zB,zC,Act.put,zD,zE,zF])
   refine nO (i:=4) (by kernel_rfl) rfl (fun K hK=> ?_);go_simp;go_simp;refine hK.out _ _ (fun _ hS=>bB hS ((Below.refl _ _).alloc (Nat.le_refl _) _)) ?_;clear hK K
   (try simp only [zA,zB,zC,Act.put,zD,zE,zF])
   refine nO (i:=5) (by kernel_rfl) rfl (fun K hK=> ?_);go_simp;refine(HPt.out w5 _ rfl).mono ?_;rintro e w6 ⟨rfl,hb6⟩;have X7:=LH (bB X6.out hb6);have B7:=LH (Below.then_ B6.out hb6);have O71:=LH (O61.out.below hb6);have O72:=LH (O62.out.below hb6);clear hb6;refine hK.out _ _ (fun _ _=>X7.out) ?_;clear hK K
   (try simp only [zA,zB,zC,Act.put,zD,zE,zF])
   refine nP 6 (Value.tuple #[.string ⟨P1.toArray⟩,.int .i64 0]) (h:= ?_)
   (try simp only [zA,zB,zC,Act.put,zD,zE,zF])
   refine nP 7 (Value.string ⟨P1.toArray⟩) (h:= ?_)
   (try simp only [zA,zB,zC,Act.put,zD,zE,zF])
   refine nP 8 (Value.int .i64 0) (h:= ?_)
   (try simp only [zA,zB,zC,Act.put,zD,zE,zF])
   refine nP 9 (Value.string ⟨P1.toArray⟩) (h:= ?_)
   (try simp only [zA,zB,zC,Act.put,zD,zE,zF])
   refine nO (i:=10) (by kernel_rfl) rfl (fun K hK=> ?_);go_simp;refine hK.out _ _ (fun _ _=>X7.out) ?_;clear hK K
   (try simp only [zA,zB,zC,Act.put,zD,zE,zF])
   refine nD (by kernel_rfl) ?_ _;refine NoPanic.normal ?_;clear O61 O62 O51 O52 X4 X5 X6 B5 B6 D5;go_wp2_with fail;refine(HRi.out _ O71.out).mono ?_;rintro e w8 ⟨rfl,hb8⟩;have X8:=LH (bB X7.out hb8);have B8:=LH (Below.then_ B7.out hb8);have O82:=LH (O72.out.below hb8);clear hb8 X7 B7 O71 O72;go_wp2_with fail;refine(HPc.out _ O82.out).mono ?_;rintro e w9 ⟨rfl,hb9⟩;have X9:=LH (bB X8.out hb9);have B9:=LH (Below.then_ B8.out hb9);have c9:=bC X9.out;have z9:=lB X9.out;clear hb9 X8 B8 O82;go_wp2_with fail;refine(HSe.out _).mono ?_;rintro e wa ⟨rfl,hba⟩
   have Ba:Hid (Below w.heap.size w wa):=LH (by
    have B9:=B9.out;exact Below.then_ bE hba)
   clear hba;go_wp2_with fail;exact bR (v:=.tuple #[.string ⟨G.toArray⟩,.int .i64 0]) (by simp only [results,Tryz.results23];go_simp) rfl ⟨rfl,Ba.out⟩
def kindT (l K:Nat) :Nat:=if l≤10 then 3 - K else K
theorem load_kind {l K:Nat} {k:Int} {r:List Nd} (h:loadErr l k K r=0) :loadErr l k (kindT l K:Nat) r=0:=by
 have hd:=goodL_dig h;obtain⟨h1,h2,h3⟩:=goodL_parts h
 have hd2:isDig l k (kindT l K:Nat) =true:=by
  simp only [isDig,isPool,Bool.and_eq_true,decide_eq_true_eq] at hd⊢;unfold kindT
  split <;> omega
 unfold loadErr;rw [if_neg (by simp [hd2]),if_neg (by simp [h1]),if_neg h2,if_neg (by simp [h3])]
def ThrPost (K l:Nat) (k:Int) (r:List Nd) (w:World) (e:Ending) (w':World) :Prop:=∃g F,e=.returned (.pointer (some ⟨g,0,none⟩))∧DigAt w' g K l k r F∧(∀b,F b→w.heap.size≤b)∧Below w.heap.size w w'
theorem top_through (w:World) (g K l:Nat) (k:Int) (r:List Nd) (F:Nat→Prop) (hD:DigAt w g K l k r F) (h:loadErr l k K r=0) (hn:r.length≤1000000) (hI:ints r) :
 Calls Tryz.prog 14 #[.pointer (some ⟨g,0,none⟩),.int .i64 4] w (ThrPost (kindT l K) l k r w):=by
 have hk:=(hD.1);obtain⟨kn,rfl⟩:=Int.eq_ofNat_of_zero_le (show 0≤k by omega);have HD:=LH hD;have HC:=LH (digest_Conf · g K l kn r F ·);have HT:=LH (fun W h=>sheet_Text W g K l kn r F h hn);have HR:=LH (fun W=>sheet_Read W l (kindT l K) kn r (load_kind h) hn hI)
 have hK:K=1∨K=2:=by
  have:=goodL_dig h;simp only [isDig,isPool,Bool.and_eq_true,decide_eq_true_eq] at this;omega
 have hll:l≤48:=hD.l_le.2;clear hD h hk;generalize textL l kn r=T at HT HR;by_cases h10:l≤10
 ·have hi: (l:Int)≤10:=by omega
  have hk2: (3:Int) - (K:Int) = ((kindT l K:Nat) :Int):=by unfold kindT;rw [if_pos h10];omega
  have hk3:wrap64 ((3:Int) - (K:Int)) = ((kindT l K:Nat) :Int):=by rw [hk2];unfold kindT wrap64;split <;> omega
  generalize kindT l K=K2 at HR hk2 hk3⊢;clear h10 hK
  go_enter Tryz.func14,Tryz.ntmps14
  go_wp2_with fail;refine(HC.out _ HD.out).mono ?_;rintro e w1 ⟨rfl,hb1⟩;have B1:Below w.heap.size w w1:=Below.then_ bE hb1;have s1:=B1.size;have AW:=(Below.refl w1.heap.size w1).alloc (Nat.le_refl _) (.cells #[.int .i64 l,.int .i64 kn,.int .i64 K2] 23);have D1:=LH ((HD.out.below B1).below AW);have H1:=LH (B1.trans (AW.mono s1));have KC:=LH (heap_alloc_new w1 (.cells #[.int .i64 l,.int .i64 kn,.int .i64 K2] 23));clear AW hb1;go_wp2_with fail;refine(HT.out _ D1.out).mono ?_;rintro e w2 ⟨rfl,hb2⟩;have k2:=bB KC.out hb2;have c2:=bC k2;have z2:=lB k2;have H2:=LH (H1.out.trans (hb2.mono H1.out.size));clear hb2 D1 KC H1;go_wp2_with fail;refine(HR.out _).mono ?_;rintro e w3 ⟨g3,F3,rfl,hD3,hF3,hb3⟩;have D3:=LH hD3;have H3:=LH (H2.out.trans (hb3.mono H2.out.size));have hs2:=H2.out.size;have F3':=LH (fun b (hb:F3 b)=>Nat.le_trans hs2 (hF3 b hb));clear hD3 hF3 hb3 k2 c2 z2;go_wp2_with fail;exact bR (v:=.pointer (some ⟨g3,0,none⟩)) (by simp only [results,Tryz.results14];go_simp) rfl ⟨g3,F3,rfl,D3.out,F3'.out,H3.out⟩
 ·have hi:decide ((l:Int)≤10) =false:=by simp;omega
  have hk2:kindT l K=K:=by unfold kindT;rw [if_neg h10]
  rw [hk2] at HR⊢;clear h10 hK hk2
  go_enter Tryz.func14,Tryz.ntmps14
  go_wp2_with fail;refine(HC.out _ HD.out).mono ?_;rintro e w1 ⟨rfl,hb1⟩;have B1:Below w.heap.size w w1:=Below.then_ bE hb1;have s1:=B1.size;have AW:=(Below.refl w1.heap.size w1).alloc (Nat.le_refl _) (.cells #[.int .i64 l,.int .i64 kn,.int .i64 K] 23);have D1:=LH ((HD.out.below B1).below AW);have H1:=LH (B1.trans (AW.mono s1));have KC:=LH (heap_alloc_new w1 (.cells #[.int .i64 l,.int .i64 kn,.int .i64 K] 23));clear AW hb1;go_wp2_with fail;refine(HT.out _ D1.out).mono ?_;rintro e w2 ⟨rfl,hb2⟩;have k2:=bB KC.out hb2;have c2:=bC k2;have z2:=lB k2;have H2:=LH (H1.out.trans (hb2.mono H1.out.size));clear hb2 D1 KC H1;go_wp2_with fail;refine(HR.out _).mono ?_;rintro e w3 ⟨g3,F3,rfl,hD3,hF3,hb3⟩;have D3:=LH hD3;have H3:=LH (H2.out.trans (hb3.mono H2.out.size));have hs2:=H2.out.size;have F3':=LH (fun b (hb:F3 b)=>Nat.le_trans hs2 (hF3 b hb));clear hD3 hF3 hb3 k2 c2 z2;go_wp2_with fail;exact bR (v:=.pointer (some ⟨g3,0,none⟩)) (by simp only [results,Tryz.results14];go_simp) rfl ⟨g3,F3,rfl,D3.out,F3'.out,H3.out⟩
theorem top_med:ofT ((3:Nat) :Int) [(13,2)] 1 2= (5,0):=by decide+kernel
theorem top_ends:endsOf ((3:Nat) :Int) 13= (5,5,true):=by decide+kernel
theorem top_text:textL 3 2 [(13,2)] = [100,105,103,101,115,116,32,51,32,50,32,50,10,53,46,46,53,32,50,10]:=by
 have h2:digB 2= [50]:=by rw [digB_lt (by decide)];decide
 have h3:digB 3= [51]:=by rw [digB_lt (by decide)];decide
 have h5:digB 5= [53]:=by rw [digB_lt (by decide)];decide
 have e1: (endsOf ((3:Nat) :Int) 13).1.toNat=5:=by rw [top_ends];rfl
 have e2: (endsOf ((3:Nat) :Int) 13).2.1.toNat=5:=by rw [top_ends];rfl
 have e3: (sumR [(13,2)]).toNat=2:=by decide
 have e4: (2:Int).toNat=2:=rfl;unfold textL headT nodeT;simp only [List.flatMap_cons,List.flatMap_nil,e1,e2,e3,e4,h2,h3,h5]
 rfl
theorem top_wire:4< (wireT 3 2 [(13,2)]).length:=by
 unfold wireT;rw [sealT_len];simp only [List.length_append,List.length_cons,List.length_nil];omega
theorem top_ins {r':List Nd} (h:InsTo 3 2 [] 5 2 r') :r'= [(13,2)]:=by
 rcases h with ⟨h,_⟩ | ⟨_,s,hs,rfl⟩
 ·exact absurd (by decide) h
 ·rcases hs with ⟨⟨_,h2,_⟩⟩ | ⟨_,rfl⟩
  ·simp at h2
  ·decide
theorem alive_top (w:World) :Calls Tryz.prog 5 #[] w fun e w'=>e=.returned (.bool true)∧Below w.heap.size w w':=by
 have HN:=LH (fun W=>digest_New W 3 2 2 (by decide));have HI:=LH (fun W g F h=>digest_Insert W g 2 3 2 [] F h (by decide) 5 2);have hie:insErr 3 [] 5 2=0:=by decide
 rw [hie] at HI;have HW:=LH (fun W g F h=>wire_Encode W g 2 3 2 [(13,2)] F h (by decide));have HT:=LH (fun W g F h=>sheet_Text W g 2 3 2 [(13,2)] F h (by decide));have HM:=LH (fun W g F h=>quant_Median W g 2 3 2 [(13,2)] F h (by decide));rw [top_text] at HT;rw [top_med] at HM;unfold pairV at HM;have hw:=top_wire;generalize wireT 3 2 [(13,2)] =T at HW hw;have hwi: (4:Int) < (T.length:Int):=by omega
 clear hie hw
 go_enter Tryz.func5,Tryz.ntmps5
 go_wp2_with fail;refine(HN.out _).mono ?_;rintro e w1 ⟨g,F,rfl,hD,hF,hb1⟩;have D1:=LH hD;have F1:=LH hF;have B1:=LH hb1;clear hD hF hb1;go_wp2_with fail;refine(HI.out _ g F D1.out).mono ?_;rintro e w2 ⟨r',rfl,hr',F2,hD2,hT2,hG2⟩;obtain rfl:=top_ins hr';have D2:=LH hD2;have H2:Hid (Below w.heap.size w w2):=LH (B1.out.trans (hT2.below F1.out B1.out.size));clear hr' hD2 hT2 hG2;go_wp2_with fail;refine(HW.out _ g F2 D2.out).mono ?_;rintro e w3 ⟨rfl,hb3⟩;have D3:=LH (D2.out.below hb3);have H3:=LH (H2.out.trans (hb3.mono H2.out.size));clear hb3;go_wp2_with fail;refine(HT.out _ g F2 D3.out).mono ?_;rintro e w4 ⟨rfl,hb4⟩;have D4:=LH (D3.out.below hb4);have H4:=LH (H3.out.trans (hb4.mono H3.out.size));clear hb4;go_wp2_with fail;refine(HM.out _ g F2 D4.out).mono ?_;rintro e w5 ⟨rfl,hb5⟩;have H5:=LH (H4.out.trans (hb5.mono H4.out.size));clear hb5;go_wp2_with fail;exact bR (v:=.bool true) (by simp only [results,Tryz.results5];go_simp) rfl ⟨rfl,H5.out⟩
def edgeL (l:Int) (r:List Nd) :List Int:=r.flatMap fun x=> [(endsOf l x.1).1,(endsOf l x.1).2.1]
theorem edgeL_append (l:Int) (a b:List Nd) :edgeL l (a ++ b) =edgeL l a ++ edgeL l b:=by simp [edgeL]
theorem edgeL_len (l:Int) (r:List Nd) : (edgeL l r).length=2*r.length:=by
 induction r with
 |nil=>rfl
 |cons x r ih=>simp only [edgeL,List.flatMap_cons,List.length_append,List.length_cons,List.length_nil] at ih⊢;omega
theorem edgeL_take (l:Int) (r:List Nd) {q:Nat} (h:q<r.length) :edgeL l (r.take (q+1)) =edgeL l (r.take q) ++ [(endsOf l r[q].1).1,(endsOf l r[q].1).2.1]:=by
 rw [List.take_succ_eq_append_getElem h,edgeL_append];simp [edgeL]
def gapE (l:Int) (a b:List Nd) :List Int:=0 :: edgeL l (a ++ b)
theorem gapE_len (l:Int) (a b:List Nd) : (gapE l a b).length=2* (a.length+b.length) +1:=by simp only [gapE,List.length_cons,edgeL_len,List.length_append]
def Rising (L E:List Int) :Prop:=L.Pairwise (· ≤ ·)∧(∀x,x∈L↔x∈E)
theorem compact_mem (d:Array Int) (m:Nat) : ∀j,j<m→d[j]! ∈Lib.compactUpTo d m:=by
 induction m with
 |zero=>intro j hj;omega
 |succ m ih=>
  intro j hj;rw [Lib.compactUpTo_succ];by_cases e:j=m
  ·subst e
   by_cases k:Lib.keeps d j=true
   ·rw [if_pos k];simp
   ·rw [if_neg k,List.append_nil]
    have k': ¬(j=0∨d[j]! ≠d[j - 1]!):=by simpa [Lib.keeps] using k
    have h0:j≠0:=fun h=>k' (.inl h);have h1:d[j]! =d[j - 1]! :=Decidable.not_not.1 fun h=>k' (.inr h);rw [h1];exact ih _ (by omega)
  ·exact List.mem_append_left _ (ih j (by omega))
theorem compact_sub (zs:List Int) : (Lib.compact zs).Sublist zs:=by
 unfold Lib.compact Lib.compactUpTo;have h:=(List.filter_sublist (l:=List.range zs.length) (p:=Lib.keeps zs.toArray)).map (fun j=>zs.toArray[j]!);have e:=Lib.range_map_get zs.toArray;simp only [List.size_toArray,List.toList_toArray] at e
 rwa [e] at h
theorem compact_rising (E:List Int) :Rising (Lib.compact (E.mergeSort fun x y=>decide (x≤y))) E:=by
 have hp: (E.mergeSort fun x y=>decide (x≤y)).Pairwise (· ≤ ·):=by
  have:=List.pairwise_mergeSort (le:=fun (x y:Int)=>decide (x≤y)) (fun a b c h1 h2=>by simp only [decide_eq_true_eq] at*;omega) (fun a b=>by simp only [Bool.or_eq_true,decide_eq_true_eq];omega) E;exact this.imp fun h=>by simpa using h
 refine⟨hp.sublist (compact_sub _),fun x=> ?_⟩;rw [←List.mem_mergeSort (le:=fun (x y:Int)=>decide (x≤y)) (l:=E)];generalize E.mergeSort (fun x y=>decide (x≤y)) =zs
 constructor
 ·exact fun h=>(compact_sub _).subset h
 ·intro h
  obtain⟨j,hj,rfl⟩:=List.getElem_of_mem h;have:=compact_mem zs.toArray zs.length j hj;rw [getElem!_pos _ _ (by simpa using hj)] at this
  simpa [Lib.compact] using this
theorem compact_len_le (E:List Int) : (Lib.compact (E.mergeSort fun x y=>decide (x≤y))).length≤E.length:=by
 have:=(compact_sub (E.mergeSort fun x y=>decide (x≤y))).length_le
 rwa [List.length_mergeSort] at this
theorem apFold_rising {f:Int→Int} {L E:List Int} (h:Rising L E) {r:Int×Int} (hr:apIs f L r) :r=apFold f E:=apIs_unique h.2 hr (apFold_is f E)
theorem gapFold_rising {l d:Int} {a b:List Nd} {L E:List Int} (h:Rising L E) :gapFold l d a b L=gapFold l d a b E:=gapFold_set h.2
def ordV (a b c d:Nat) :Int:=cmpV (a*b) (c*d)
theorem reckon_Order (w:World) (a b c d:Nat) (ha:a≤9223372036854775807) (hb:b≤9223372036854775807) (hc:c≤9223372036854775807) (hd:d≤9223372036854775807) :
 Calls Tryz.prog 179 #[.int .i64 a,.int .i64 b,.int .i64 c,.int .i64 d] w fun e w'=>e=.returned (.tuple #[.int .i64 (ordV a b c d),.bool true])∧Below w.heap.size w w':=by
 have HC1:=LH (show decide (0≤(a:Int)∧0≤(b:Int)) =true by simp);have HC2:=LH (show decide (0≤(c:Int)∧0≤(d:Int)) =true by simp);have HM1:Hid (∀W,Calls Tryz.prog 125 #[.int .u64 a,.int .u64 b] W fun e w'=>e=.returned (.tuple #[.int .u64 (a*b / 18446744073709551616:Nat),.int .u64 (a*b % 18446744073709551616:Nat)])∧w'=W):=LH fun W=>Tryz.bits_Mul64 a b (by omega) (by omega) W;have HM2:Hid (∀W,Calls Tryz.prog 125 #[.int .u64 c,.int .u64 d] W fun e w'=>e=.returned (.tuple #[.int .u64 (c*d / 18446744073709551616:Nat),.int .u64 (c*d % 18446744073709551616:Nat)])∧w'=W):=LH fun W=>Tryz.bits_Mul64 c d (by omega) (by omega) W;have h1:a*b≤9223372036854775807*9223372036854775807:=Nat.mul_le_mul ha hb;have h2:c*d≤9223372036854775807*9223372036854775807:=Nat.mul_le_mul hc hd;have e1:ordV a b c d=cmpV (a*b) (c*d):=rfl;rw [e1];clear e1;generalize a*b=m at HM1 h1⊢;generalize c*d=n at HM2 h2⊢;have f1:m=18446744073709551616* (m / 18446744073709551616) +m % 18446744073709551616:=by omega
 have f2:n=18446744073709551616* (n / 18446744073709551616) +n % 18446744073709551616:=by omega
 have g1:m / 18446744073709551616≤18446744073709551615:=by omega
 have g2:n / 18446744073709551616≤18446744073709551615:=by omega
 have g3:m % 18446744073709551616≤18446744073709551615:=by omega
 have g4:n % 18446744073709551616≤18446744073709551615:=by omega
 generalize m / 18446744073709551616=p at HM1 f1 g1;generalize m % 18446744073709551616=q at HM1 f1 g3;generalize n / 18446744073709551616=r at HM2 f2 g2;generalize n % 18446744073709551616=s at HM2 f2 g4;rcases (show p<r∨(p=r∧q<s)∨(r<p)∨(p=r∧s<q)∨(p=r∧q=s) by omega) with k| ⟨k,k2⟩ |k| ⟨k,k2⟩ | ⟨k,k2⟩
 ·rw [cmpV_less (by omega)]
  clear f1 f2 h1 h2
  go_enter Tryz.func179,Tryz.ntmps179
  go_wp2_with fail;refine(reckon_counts _ a b).mono ?_;rintro e w1 ⟨rfl,hb1⟩;have B1:Below w.heap.size w w1:=Below.then_ bE hb1;have s1:=B1.size;rw [HC1.out];go_wp2_with fail;refine(reckon_counts _ c d).mono ?_;rintro e w2 ⟨rfl,hb2⟩;have B2:Below w.heap.size w w2:=Below.then_ bE hb2;have s2:=B2.size;rw [HC2.out];go_wp2_with fail;refine(HM1.out _).mono ?_;rintro e w3 ⟨rfl,rfl⟩;go_wp2_with fail;refine(HM2.out _).mono ?_;rintro e w4 ⟨rfl,rfl⟩;go_wp2_with fail
  go_ret2
  exact⟨rfl,bE⟩
 ·subst k
  rw [cmpV_less (by omega)];clear f1 f2 h1 h2
  go_enter Tryz.func179,Tryz.ntmps179
  go_wp2_with fail;refine(reckon_counts _ a b).mono ?_;rintro e w1 ⟨rfl,hb1⟩;have B1:Below w.heap.size w w1:=Below.then_ bE hb1;have s1:=B1.size;rw [HC1.out];go_wp2_with fail;refine(reckon_counts _ c d).mono ?_;rintro e w2 ⟨rfl,hb2⟩;have B2:Below w.heap.size w w2:=Below.then_ bE hb2;have s2:=B2.size;rw [HC2.out];go_wp2_with fail;refine(HM1.out _).mono ?_;rintro e w3 ⟨rfl,rfl⟩;go_wp2_with fail;refine(HM2.out _).mono ?_;rintro e w4 ⟨rfl,rfl⟩;go_wp2_with fail
  go_ret2
  exact⟨rfl,bE⟩
 ·rw [cmpV_more (by omega)]
  have j1:decide ((p:Int) < (r:Int)) =false:=by simp;omega
  have j2: ((p:Int) == (r:Int)) =false:=by simp;omega
  clear f1 f2 h1 h2
  go_enter Tryz.func179,Tryz.ntmps179
  go_wp2_with fail;refine(reckon_counts _ a b).mono ?_;rintro e w1 ⟨rfl,hb1⟩;have B1:Below w.heap.size w w1:=Below.then_ bE hb1;have s1:=B1.size;rw [HC1.out];go_wp2_with fail;refine(reckon_counts _ c d).mono ?_;rintro e w2 ⟨rfl,hb2⟩;have B2:Below w.heap.size w w2:=Below.then_ bE hb2;have s2:=B2.size;rw [HC2.out];go_wp2_with fail;refine(HM1.out _).mono ?_;rintro e w3 ⟨rfl,rfl⟩;go_wp2_with fail;refine(HM2.out _).mono ?_;rintro e w4 ⟨rfl,rfl⟩;go_wp2_with fail
  go_ret2
  exact⟨rfl,bE⟩
 ·subst k
  rw [cmpV_more (by omega)];have j1:decide ((q:Int) < (s:Int)) =false:=by simp;omega
  clear f1 f2 h1 h2
  go_enter Tryz.func179,Tryz.ntmps179
  go_wp2_with fail;refine(reckon_counts _ a b).mono ?_;rintro e w1 ⟨rfl,hb1⟩;have B1:Below w.heap.size w w1:=Below.then_ bE hb1;have s1:=B1.size;rw [HC1.out];go_wp2_with fail;refine(reckon_counts _ c d).mono ?_;rintro e w2 ⟨rfl,hb2⟩;have B2:Below w.heap.size w w2:=Below.then_ bE hb2;have s2:=B2.size;rw [HC2.out];go_wp2_with fail;refine(HM1.out _).mono ?_;rintro e w3 ⟨rfl,rfl⟩;go_wp2_with fail;refine(HM2.out _).mono ?_;rintro e w4 ⟨rfl,rfl⟩;go_wp2_with fail
  go_ret2
  exact⟨rfl,bE⟩
 ·subst k k2
  rw [cmpV_eq (by omega)];clear f1 f2 h1 h2
  go_enter Tryz.func179,Tryz.ntmps179
  go_wp2_with fail;refine(reckon_counts _ a b).mono ?_;rintro e w1 ⟨rfl,hb1⟩;have B1:Below w.heap.size w w1:=Below.then_ bE hb1;have s1:=B1.size;rw [HC1.out];go_wp2_with fail;refine(reckon_counts _ c d).mono ?_;rintro e w2 ⟨rfl,hb2⟩;have B2:Below w.heap.size w w2:=Below.then_ bE hb2;have s2:=B2.size;rw [HC2.out];go_wp2_with fail;refine(HM1.out _).mono ?_;rintro e w3 ⟨rfl,rfl⟩;go_wp2_with fail;refine(HM2.out _).mono ?_;rintro e w4 ⟨rfl,rfl⟩;go_wp2_with fail
  go_ret2
  exact⟨rfl,bE⟩
theorem gap_less (w:World) (a b c d:Nat) (ha:a≤9223372036854775807) (hb:b≤9223372036854775807) (hc:c≤9223372036854775807) (hd:d≤9223372036854775807) :
 Calls Tryz.prog 121 #[.int .i64 a,.int .i64 b,.int .i64 c,.int .i64 d] w fun e w'=>e=.returned (.bool (decide (a*d<c*b)))∧Below w.heap.size w w':=by
 have HO:=LH (reckon_Order · a d c b ha hd hc hb);have e:decide (a*d<c*b) =decide (ordV a d c b<0):=by unfold ordV;rw [decide_eq_decide];exact(cmpV_lt _ _).symm
 rw [e];generalize ordV a d c b=o at HO;clear e
 go_enter Tryz.func121,Tryz.ntmps121
 go_wp2_with fail;refine(HO.out _).mono ?_;rintro e w1 ⟨rfl,hb1⟩;have B1:Below w.heap.size w w1:=Below.then_ bE hb1;have s1:=B1.size;go_wp2_with fail;go_ret;exact⟨rfl,B1⟩
def gapErr (l m:Int) (a b:List Nd) :Int:=if l≠m then 6 else if sumR a=0∨sumR b=0 then 7 else 0
def sideN (n m pl ph ql qh:Nat) :Int:=if qh*n<pl*m then 1 else if ph*m<ql*n then -1 else 0
theorem gap_side (w:World) (x:Int) {L1 B1 g1 L2 B2 g2:Nat} {lt1 ft1 lt2 ft2:List Nd} (n m pl ph ql qh:Nat) (h1:TabAt w L1 B1 g1 n lt1 ft1) (h2:TabAt w L2 B2 g2 m lt2 ft2) (b1:B1≤w.heap.size) (b2:B2≤w.heap.size)
 (m1:lt1.length≤67108864) (r1:lt1.Pairwise fun a b=>a.1<b.1) (m1':ft1.length≤67108864) (r1':ft1.Pairwise fun a b=>a.1<b.1) (m2:lt2.length≤67108864) (r2:lt2.Pairwise fun a b=>a.1<b.1) (m2':ft2.length≤67108864) (r2':ft2.Pairwise fun a b=>a.1<b.1)
 (e1:upT lt1 x=pl) (e2:upT ft1 x=ph) (e3:upT lt2 x=ql) (e4:upT ft2 x=qh) (k1:n≤9223372036854775807) (k2:m≤9223372036854775807) (k3:pl≤9223372036854775807) (k4:ph≤9223372036854775807) (k5:ql≤9223372036854775807) (k6:qh≤9223372036854775807) :
 Calls Tryz.prog 46 #[.pointer (some ⟨g1,0,none⟩),.pointer (some ⟨g2,0,none⟩),.int .i64 x] w fun e w'=>e=.returned (.int .i64 (sideN n m pl ph ql qh))∧Below w.heap.size w w':=by
 have HB1:=LH (fun W (h:TabAt W L1 B1 g1 n lt1 ft1) (hb:B1≤W.heap.size)=>table_Both x h hb m1 r1 m1' r1');have HB2:=LH (fun W (h:TabAt W L2 B2 g2 m lt2 ft2) (hb:B2≤W.heap.size)=>table_Both x h hb m2 r2 m2' r2');rw [e1,e2] at HB1;rw [e3,e4] at HB2;have T1:=LH h1;have T2:=LH h2;have HL1:=LH (fun W=>gap_less W qh m pl n k6 k2 k3 k1);have HL2:=LH (fun W=>gap_less W ph n ql m k4 k1 k5 k2);clear h1 h2 r1 r2 r1' r2' e1 e2 e3 e4
 have hcase: (decide (qh*n<pl*m) =true∧sideN n m pl ph ql qh=1)∨(decide (qh*n<pl*m) =false∧decide (ph*m<ql*n) =true∧sideN n m pl ph ql qh= -1)∨(decide (qh*n<pl*m) =false∧decide (ph*m<ql*n) =false∧sideN n m pl ph ql qh=0):=by
  unfold sideN;by_cases d1:qh*n<pl*m
  ·exact .inl ⟨by simpa using d1,by rw [if_pos d1]⟩
  ·by_cases d2:ph*m<ql*n
   ·exact .inr (.inl ⟨by simpa using d1,by simpa using d2,by rw [if_neg d1,if_pos d2]⟩)
   ·exact .inr (.inr ⟨by simpa using d1,by simpa using d2,by rw [if_neg d1,if_neg d2]⟩)
 rcases hcase with ⟨f1,f3⟩ | ⟨f1,f2,f3⟩ | ⟨f1,f2,f3⟩
 all_goals (
  rw [f1] at HL1
  (try rw [f2] at HL2)
  rw [f3];clear f1 f3
  (try clear f2)
  go_enter Tryz.func46,Tryz.ntmps46
  go_wp2_with fail;refine(HB1.out _ T1.out b1).mono ?_;rintro e w1 ⟨rfl,hb1⟩;have s1:=hb1.size;have U1:=LH (T1.out.below (hb1.mono b1));have U2:=LH (T2.out.below (hb1.mono b2));have BB1:=LH hb1;clear hb1;go_wp2_with fail;refine(HB2.out _ U2.out (by omega)).mono ?_;rintro e w2 ⟨rfl,hb2⟩;have s2:=hb2.size;have V1:=LH (U1.out.below (hb2.mono (by omega)));have V2:=LH (U2.out.below (hb2.mono (by omega)));have BB2:=LH (BB1.out.trans (hb2.mono s1));clear hb2;go_wp2_with fail;have BA:Below w2.heap.size w2 ((w2.alloc (.cells #[.int .i64 pl,.int .i64 ph] 40)).alloc (.cells #[.int .i64 ql,.int .i64 qh] 40)):=((Below.refl _ _).alloc (Nat.le_refl _) _).alloc (by simp) _;have P3:Hid (bothAt ((w2.alloc (.cells #[.int .i64 pl,.int .i64 ph] 40)).alloc (.cells #[.int .i64 ql,.int .i64 qh] 40)) w2.heap.size pl ph):=LH ((bothAt.new w2 pl ph).alloc _);have Q3:Hid (bothAt ((w2.alloc (.cells #[.int .i64 pl,.int .i64 ph] 40)).alloc (.cells #[.int .i64 ql,.int .i64 qh] 40)) (w2.heap.size+1) ql qh):=LH (heap_new_at _ _ (w2.heap.size+1) (by simp));have BB3:=LH (BB2.out.trans (BA.mono (Nat.le_trans s1 s2)));have s3:=BA.size;have T3:Hid (TabAt ((w2.alloc (.cells #[.int .i64 pl,.int .i64 ph] 40)).alloc (.cells #[.int .i64 ql,.int .i64 qh] 40)) L1 B1 g1 n lt1 ft1∧TabAt ((w2.alloc (.cells #[.int .i64 pl,.int .i64 ph] 40)).alloc (.cells #[.int .i64 ql,.int .i64 qh] 40)) L2 B2 g2 m lt2 ft2∧B1≤((w2.alloc (.cells #[.int .i64 pl,.int .i64 ph] 40)).alloc (.cells #[.int .i64 ql,.int .i64 qh] 40)).heap.size∧B2≤((w2.alloc (.cells #[.int .i64 pl,.int .i64 ph] 40)).alloc (.cells #[.int .i64 ql,.int .i64 qh] 40)).heap.size):=LH ⟨V1.out.below (BA.mono (by omega)),V2.out.below (BA.mono (by omega)),by omega,by omega⟩;clear BA;generalize (w2.alloc (.cells #[.int .i64 pl,.int .i64 ph] 40)).alloc (.cells #[.int .i64 ql,.int .i64 qh] 40) =W3 at P3 Q3 BB3 s3 T3⊢;have cp:=bC P3.out;have cq:=bC Q3.out;have zp:=lB P3.out;have zq:=lB Q3.out)
 ·refine rX (by kernel_rfl) (by kernel_rfl) ?_
  repeat (go_big_quiet_step (first
   | (go_at_call_of 122 (Value.pointer (some ⟨g1,0,none⟩));exact quiet_ext (table_N (T3.out.1.below ((ext_below _ _).mono T3.out.2.2.1))))
   | (go_at_call_of 122 (Value.pointer (some ⟨g2,0,none⟩));exact quiet_ext (table_N (T3.out.2.1.below ((ext_below _ _).mono T3.out.2.2.2))))
   | (go_at_call 121;exact quiet_ext (HL1.out _))))
  have BX:=BB3.out;refine wpQuiet_nil ?_;intro w4 hb4;replace hb4:=bX hb4;have B4:Below w.heap.size w w4:=Below.then_ bE hb4;have s4:=B4.size;go_wp2_with fail;go_ret;exact⟨rfl,BB3.out.trans (hb4.mono BB3.out.size)⟩
 ·refine rX (by kernel_rfl) (by kernel_rfl) ?_
  repeat (go_big_quiet_step (first
   | (go_at_call_of 122 (Value.pointer (some ⟨g1,0,none⟩));exact quiet_ext (table_N (T3.out.1.below ((ext_below _ _).mono T3.out.2.2.1))))
   | (go_at_call_of 122 (Value.pointer (some ⟨g2,0,none⟩));exact quiet_ext (table_N (T3.out.2.1.below ((ext_below _ _).mono T3.out.2.2.2))))
   | (go_at_call 121;exact quiet_ext (HL1.out _))))
  have BX:=BB3.out;refine wpQuiet_nil ?_;intro w4 hb4;replace hb4:=bX hb4;have B4:Below w.heap.size w w4:=Below.then_ bE hb4;have s4:=B4.size;have P4:=LH (P3.out.below hb4);have Q4:=LH (Q3.out.below hb4);have BB4:=LH (BB3.out.trans (hb4.mono BB3.out.size));have s4':=hb4.size;have T4:Hid (TabAt w4 L1 B1 g1 n lt1 ft1∧TabAt w4 L2 B2 g2 m lt2 ft2∧B1≤w4.heap.size∧B2≤w4.heap.size):=LH ⟨T3.out.1.below (hb4.mono T3.out.2.2.1),T3.out.2.1.below (hb4.mono T3.out.2.2.2),Nat.le_trans T3.out.2.2.1 s4',Nat.le_trans T3.out.2.2.2 s4'⟩;clear cp cq zp zq;have cp:=bC P4.out;have cq:=bC Q4.out;have zp:=lB P4.out;have zq:=lB Q4.out;go_wp2_with fail;refine rX (by kernel_rfl) (by kernel_rfl) ?_
  repeat (go_big_quiet_step (first
   | (go_at_call_of 122 (Value.pointer (some ⟨g1,0,none⟩));exact quiet_ext (table_N (T4.out.1.below ((ext_below _ _).mono T4.out.2.2.1))))
   | (go_at_call_of 122 (Value.pointer (some ⟨g2,0,none⟩));exact quiet_ext (table_N (T4.out.2.1.below ((ext_below _ _).mono T4.out.2.2.2))))
   | (go_at_call 121;exact quiet_ext (HL2.out _))))
  have BY:=BB4.out;refine wpQuiet_nil ?_;intro w5 hb5;replace hb5:=bX hb5;have B5:Below w.heap.size w w5:=Below.then_ bE hb5;have s5:=B5.size;go_wp2_with fail;go_ret;exact⟨rfl,BB4.out.trans (hb5.mono BB4.out.size)⟩
 ·refine rX (by kernel_rfl) (by kernel_rfl) ?_
  repeat (go_big_quiet_step (first
   | (go_at_call_of 122 (Value.pointer (some ⟨g1,0,none⟩));exact quiet_ext (table_N (T3.out.1.below ((ext_below _ _).mono T3.out.2.2.1))))
   | (go_at_call_of 122 (Value.pointer (some ⟨g2,0,none⟩));exact quiet_ext (table_N (T3.out.2.1.below ((ext_below _ _).mono T3.out.2.2.2))))
   | (go_at_call 121;exact quiet_ext (HL1.out _))))
  have BX:=BB3.out;refine wpQuiet_nil ?_;intro w4 hb4;replace hb4:=bX hb4;have B4:Below w.heap.size w w4:=Below.then_ bE hb4;have s4:=B4.size;have P4:=LH (P3.out.below hb4);have Q4:=LH (Q3.out.below hb4);have BB4:=LH (BB3.out.trans (hb4.mono BB3.out.size));have s4':=hb4.size;have T4:Hid (TabAt w4 L1 B1 g1 n lt1 ft1∧TabAt w4 L2 B2 g2 m lt2 ft2∧B1≤w4.heap.size∧B2≤w4.heap.size):=LH ⟨T3.out.1.below (hb4.mono T3.out.2.2.1),T3.out.2.1.below (hb4.mono T3.out.2.2.2),Nat.le_trans T3.out.2.2.1 s4',Nat.le_trans T3.out.2.2.2 s4'⟩;clear cp cq zp zq;have cp:=bC P4.out;have cq:=bC Q4.out;have zp:=lB P4.out;have zq:=lB Q4.out;go_wp2_with fail;refine rX (by kernel_rfl) (by kernel_rfl) ?_
  repeat (go_big_quiet_step (first
   | (go_at_call_of 122 (Value.pointer (some ⟨g1,0,none⟩));exact quiet_ext (table_N (T4.out.1.below ((ext_below _ _).mono T4.out.2.2.1))))
   | (go_at_call_of 122 (Value.pointer (some ⟨g2,0,none⟩));exact quiet_ext (table_N (T4.out.2.1.below ((ext_below _ _).mono T4.out.2.2.2))))
   | (go_at_call 121;exact quiet_ext (HL2.out _))))
  have BY:=BB4.out;refine wpQuiet_nil ?_;intro w5 hb5;replace hb5:=bX hb5;have B5:Below w.heap.size w w5:=Below.then_ bE hb5;have s5:=B5.size;go_wp2_with fail;go_ret;exact⟨rfl,BB4.out.trans (hb5.mono BB4.out.size)⟩
theorem gap_wrong (w:World) (g1 K1 l1 g2 K2 l2:Nat) (k1 k2:Int) (r1 r2:List Nd) (F1 F2:Nat→Prop) (h1:DigAt w g1 K1 l1 k1 r1 F1) (h2:DigAt w g2 K2 l2 k2 r2 F2) :
 Calls Tryz.prog 44 #[.pointer (some ⟨g1,0,none⟩),.pointer (some ⟨g2,0,none⟩)] w fun e w'=>e=.returned (.int .i64 (gapErr l1 l2 r1 r2))∧Below w.heap.size w w':=by
 have HD1:=LH h1;have HD2:=LH h2;have HC1:=LH (digest_Conf · g1 K1 l1 k1 r1 F1 ·);have HC2:=LH (digest_Conf · g2 K2 l2 k2 r2 F2 ·);have HN1:=LH (digest_N · g1 K1 l1 k1 r1 F1 ·);have HN2:=LH (digest_N · g2 K2 l2 k2 r2 F2 ·);have q1:=h1.l_le;have q2:=h2.l_le
 have hcase: (((l1:Int) == (l2:Int)) =false∧gapErr l1 l2 r1 r2=6)∨(l1=l2∧sumR r1=0∧gapErr l1 l2 r1 r2=7)∨(l1=l2∧(sumR r1 == 0) =false∧sumR r2=0∧gapErr l1 l2 r1 r2=7)∨(l1=l2∧(sumR r1 == 0) =false∧(sumR r2 == 0) =false∧gapErr l1 l2 r1 r2=0):=by
  unfold gapErr;by_cases c1: (l1:Int) =l2
  ·have c1':l1=l2:=by omega
   by_cases c2:sumR r1=0
   ·exact .inr (.inl ⟨c1',c2,by rw [if_neg (not_not_intro c1),if_pos (.inl c2)]⟩)
   ·by_cases c3:sumR r2=0
    ·exact .inr (.inr (.inl ⟨c1',by simpa using c2,c3,by rw [if_neg (not_not_intro c1),if_pos (.inr c3)]⟩))
    ·exact .inr (.inr (.inr ⟨c1',by simpa using c2,by simpa using c3,by rw [if_neg (not_not_intro c1),if_neg (by simp [c2,c3])]⟩))
  ·exact .inl ⟨by simpa using c1,by rw [if_pos c1]⟩
 clear h1 h2;rcases hcase with ⟨f1,fe⟩ | ⟨f1,f2,fe⟩ | ⟨f1,f2,f3,fe⟩ | ⟨f1,f2,f3,fe⟩
 ·rw [fe]
  clear fe HN1 HN2
  go_enter Tryz.func44,Tryz.ntmps44
  go_wp2_with fail;refine(HC1.out _ HD1.out).mono ?_;rintro e w1 ⟨rfl,hb1⟩;have B1:Below w.heap.size w w1:=Below.then_ bE hb1;have s1:=B1.size;go_wp2_with fail;refine(HC2.out _ (HD2.out.below hb1)).mono ?_;rintro e w2 ⟨rfl,hb2⟩;have B2:Below w.heap.size w w2:=Below.then_ bE hb2;have s2:=B2.size;go_wp2_with fail;go_ret;exact⟨rfl,bE⟩
 ·subst f1
  rw [fe];rw [f2] at HN1;clear fe f2 HN2
  go_enter Tryz.func44,Tryz.ntmps44
  go_wp2_with fail;refine(HC1.out _ HD1.out).mono ?_;rintro e w1 ⟨rfl,hb1⟩;have B1:Below w.heap.size w w1:=Below.then_ bE hb1;have s1:=B1.size;have D1:=LH (HD1.out.below hb1);have D2:=LH (HD2.out.below hb1);go_wp2_with fail;refine(HC2.out _ D2.out).mono ?_;rintro e w2 ⟨rfl,hb2⟩;have B2:Below w.heap.size w w2:=Below.then_ bE hb2;have s2:=B2.size;go_wp2_with fail;refine(HN1.out _ (D1.out.below hb2)).mono ?_;rintro e w3 ⟨rfl,hb3⟩;have B3:Below w.heap.size w w3:=Below.then_ bE hb3;have s3:=B3.size;go_wp2_with fail;go_ret;exact⟨rfl,bE⟩
 ·subst f1
  rw [fe];rw [f3] at HN2;generalize sumR r1=n at HN1 f2;clear fe f3
  go_enter Tryz.func44,Tryz.ntmps44
  go_wp2_with fail;refine(HC1.out _ HD1.out).mono ?_;rintro e w1 ⟨rfl,hb1⟩;have B1:Below w.heap.size w w1:=Below.then_ bE hb1;have s1:=B1.size;have D1:=LH (HD1.out.below hb1);have D2:=LH (HD2.out.below hb1);go_wp2_with fail;refine(HC2.out _ D2.out).mono ?_;rintro e w2 ⟨rfl,hb2⟩;have B2:Below w.heap.size w w2:=Below.then_ bE hb2;have s2:=B2.size;have E1:=LH (D1.out.below hb2);have E2:=LH (D2.out.below hb2);go_wp2_with fail;refine(HN1.out _ E1.out).mono ?_;rintro e w3 ⟨rfl,hb3⟩;have B3:Below w.heap.size w w3:=Below.then_ bE hb3;have s3:=B3.size;go_wp2_with fail;refine(HN2.out _ (E2.out.below hb3)).mono ?_;rintro e w4 ⟨rfl,hb4⟩;have B4:Below w.heap.size w w4:=Below.then_ bE hb4;have s4:=B4.size;go_wp2_with fail;go_ret;exact⟨rfl,bE⟩
 ·subst f1
  rw [fe];generalize sumR r1=n at HN1 f2;generalize sumR r2=m at HN2 f3;clear fe
  go_enter Tryz.func44,Tryz.ntmps44
  go_wp2_with fail;refine(HC1.out _ HD1.out).mono ?_;rintro e w1 ⟨rfl,hb1⟩;have B1:Below w.heap.size w w1:=Below.then_ bE hb1;have s1:=B1.size;have D1:=LH (HD1.out.below hb1);have D2:=LH (HD2.out.below hb1);go_wp2_with fail;refine(HC2.out _ D2.out).mono ?_;rintro e w2 ⟨rfl,hb2⟩;have B2:Below w.heap.size w w2:=Below.then_ bE hb2;have s2:=B2.size;have E1:=LH (D1.out.below hb2);have E2:=LH (D2.out.below hb2);go_wp2_with fail;refine(HN1.out _ E1.out).mono ?_;rintro e w3 ⟨rfl,hb3⟩;have B3:Below w.heap.size w w3:=Below.then_ bE hb3;have s3:=B3.size;go_wp2_with fail;refine(HN2.out _ (E2.out.below hb3)).mono ?_;rintro e w4 ⟨rfl,hb4⟩;have B4:Below w.heap.size w w4:=Below.then_ bE hb4;have s4:=B4.size;go_wp2_with fail;go_ret;exact⟨rfl,bE⟩
theorem sideV_nat (n m pl ph ql qh:Nat) :sideV n m pl ph ql qh=sideN n m pl ph ql qh:=by
 unfold sideV sideN;have e: ∀a b c d:Nat,((a:Int) *b< (c:Int) *d) = (a*b<c*d):=fun a b c d=>by rw [←Int.natCast_mul,←Int.natCast_mul];exact propext Int.ofNat_lt
 simp only [e]
def sideT (l m:Int) (a b:List Nd) (x:Int) :Int:=if gapErr l m a b=0 then sideOf l a b x else 0
theorem gapErr_ok {l m:Int} {a b:List Nd} (h:gapErr l m a b=0) :l=m:=by
 unfold gapErr at h
 split at h
 ·cases h
 ·rename_i h1;exact Decidable.not_not.1 h1
theorem low_range {l:Int} {r:List Nd} (hr:Roll r) (x:Int) :0≤lowOf l r x∧lowOf l r x≤sumR r:=weighR_le hr
theorem high_range' {l:Int} {r:List Nd} (hr:Roll r) (x:Int) :0≤highOf l r x∧highOf l r x≤sumR r:=weighR_le hr
theorem sideV_same {n pl ph:Int} (h0:0≤n) (h1:pl≤ph) :sideV n n pl ph pl ph=0:=by
 unfold sideV;have k1:=Int.mul_le_mul_of_nonneg_right h1 h0;rw [if_neg (by omega),if_neg (by omega)]
theorem sideOf_same {l:Nat} {a:List Nd} (ha:Roll a) (ra:rightOf l a=true) (x:Int) :sideOf l a a x=0:=sideV_same (sumR_nonneg ha) (low_high ha ra x)
theorem apFold_none {f:Int→Int} {l:List Int} (h: ∀x∈l,f x=0) :apFold f l= (0,0):=apIs_unique (fun _=>Iff.rfl) (apFold_is f l) (apIs_none h)
theorem upV_ge (a b c:Nat) :a*b / c≤upV a b c:=by unfold upV;omega
theorem down_up {n d x y:Int} (hx:x≤y) :downV n d x≤upP n d y:=by
 unfold downV upP;have h1:x.toNat≤y.toNat:=by omega
 have h2:x.toNat*d.toNat / n.toNat≤y.toNat*d.toNat / n.toNat:=Nat.div_le_div_right (Nat.mul_le_mul_right _ h1);have h3:=upV_ge y.toNat d.toNat n.toNat;omega
theorem gapFold_same {l:Nat} {d:Int} {a:List Nd} (ha:Roll a) (ra:rightOf l a=true) (e:List Int) : (gapFold l d a a e).1=0:=by
 have h:=((gapFold_le l d a a e 0 0).1).2 ⟨Int.le_refl _,fun x hx=>by
  have:=down_up (n:=sumR a) (d:=d) (low_high (l:=l) ha ra x);simp only [gapStep];omega⟩
 have h2:0≤(gapFold l d a a e).1:=by
  suffices k: ∀(e:List Int) (o:Int×Int),0≤o.1→0≤(e.foldl (gapStep l d a a) o).1 from k e (0,0) (Int.le_refl _)
  intro e
  induction e with
  |nil=>intro o ho;exact ho
  |cons x e ih=>intro o ho;exact ih _ (by simp only [gapStep];omega)
 omega

section
variable {α:Type} {P:Program} {t e:TypeId} {size bytes:Nat} {z:Value}
theorem wpList_pushes {w:World} {ops:Array Oper} {rest:List Oper} {o:Oper} {a:Act} {Q:Exit→Act→World→Prop} (T:SliceTy P t e size bytes z) (hgd:o.guard=none) (s x:Operand)
 (ho:o.op=.call {callee:=.builtin .append,args:= #[s,x],argTypes:= #[t,t]}) (E:Enc α size) (W:World) (base:Nat) (v:Value) (l:List α) (hs:a.eval s=v) (hown:Own W base e E v l)
 (l2:List α) (n:Nat) (hn2:n=l2.length) (hx:a.eval x=.slice (some ⟨W.heap.size,0,none⟩) n n) (hw:w=W.alloc (.cells (l2.flatMap E.enc).toArray e)) (hn: (l.length+l2.length) *bytes≤140737488355328) (hm:l.length+l2.length≤maxLen) (hbase:base≤W.heap.size)
 (h: ∀v' w',Own w' base e E v' (l ++ l2)→W.grownBy w' v.ownBlock→W.heap.size<w'.heap.size→(v'.ownBlock=v.ownBlock∨v'.ownBlock=some (W.heap.size+1))→Below base W w'→(l2≠ []→v'≠.slice none 0 0)→
   wpList P ops Q rest (a.put o.dst v') w') :wpList P ops Q (o :: rest) a w:=by
 subst hw hn2;refine wpList_app T hgd s x ho E base v l hs (hown.alloc _) (some ⟨W.heap.size,0,none⟩) l2.length l2 _ hx (sl_lit W E l2 e _ rfl) hn hm (by simp;omega) fun v' w' h2 h3 h4 h5 h6=> ?_;have hs:=h3.size;simp at hs
 refine h v' w' h2 ⟨h3.os,h3.tape,h3.output,by omega,fun i hi hne=>(h3.block i (by simp;omega) hne).trans (Below.heap_alloc W _ i hi)⟩ (by omega) ?_ ?_ h6
 ·rcases h4 with h4|h4
  ·exact .inl h4
  ·right;rw [h4];simp
 ·exact((Below.refl base W).alloc hbase _).trans h5
end
theorem flatZ (l:List Int) :l.flatMap encZ.enc=l.map (Value.int .i64):=by
 induction l with
 |nil=>rfl
 |cons x l ih=>rw [List.flatMap_cons,ih];rfl
theorem Own.holdsZ {w:World} {base g off cap:Nat} {l:List Int} (h:Own w base 3 encZ (.slice (some ⟨g,off,none⟩) l.length cap) l) :Go.Sort.Holds (Value.int .i64) w g off l.toArray:=by
 intro j hj;have hj:j<l.length:=by simpa using hj
 rcases h with ⟨h,_⟩ | ⟨g',off',cap',cur,hv,hb,hh,h1,h2,h3,hc⟩
 ·cases h
 ·injection hv with hv _ _
  injection hv with hv
  injection hv with e1 e2
  subst e1 e2;rw [bC hh,bF hh];refine⟨hc j _ ?_,rfl⟩;rw [flatZ,List.getElem?_map,List.getElem?_eq_getElem hj];simp [hj]
theorem Own.putZ {w:World} {base g off cap:Nat} {l:List Int} (h:Own w base 3 encZ (.slice (some ⟨g,off,none⟩) l.length cap) l) (d l':List Int) (hd:d.length=l.length) (rest:List Int) (hr:d=l' ++ rest) (n:Nat) (os:Array Obj) :
 Own (Go.Sort.grow (Go.Sort.putRow (Value.int .i64) (Go.Sort.ahead w n) g off d.toArray) os) base 3 encZ (.slice (some ⟨g,off,none⟩) l'.length cap) l'∧Turn (fun b=>b=g) w (Go.Sort.grow (Go.Sort.putRow (Value.int .i64) (Go.Sort.ahead w n) g off d.toArray) os)∧base≤g:=by
 have hl:l'.length≤l.length:=by rw [←hd,hr,List.length_append];omega
 rcases h with ⟨h,_⟩ | ⟨g',off',cap',cur,hv,hb,hh,h1,h2,h3,hc⟩
 ·cases h
 ·injection hv with hv _ hcap
  injection hv with hv
  injection hv with e1 e2
  subst e1 e2 hcap;have hlt:g<w.heap.size:=lB hh
  have hg: (Go.Sort.grow (Go.Sort.putRow (Value.int .i64) (Go.Sort.ahead w n) g off d.toArray) os).heap[g]? =some (.cells (Go.Sort.putCells (Value.int .i64) off d.toArray cur) 3 (0,0)):=by
   rw [Go.Sort.heap_grow_old _ _ (by simp [Go.Sort.putRow,Go.Sort.mapBlock,Go.Sort.ahead];exact hlt)];simp [Go.Sort.putRow,Go.Sort.mapBlock,Go.Sort.ahead,Array.getElem?_modify,Go.Sort.onCells,hh]
  refine⟨.inr ⟨g,off,cap,_,rfl,hb,hg,by omega,h2,by simpa [Go.Sort.putCells] using h3,fun j u hj=> ?_⟩,⟨rfl,rfl,rfl,?_,fun b hlb hn=> ?_⟩,hb⟩
  ·rw [flatZ,List.getElem?_map] at hj
   obtain⟨x,hx,rfl⟩:=Option.map_eq_some_iff.1 hj;have hjl:j<l'.length:=(List.getElem?_eq_some_iff.1 hx).1;have hcur:cur[off+j]? =some cur[off+j]:=Array.getElem?_eq_getElem (by omega);simp only [Go.Sort.putCells,Array.getElem?_mapIdx,hcur,Option.map_some];rw [if_pos ⟨by omega,by simp [hd];omega⟩];have hdj:d[j]? =some x:=by rw [hr,List.getElem?_append_left hjl];exact hx
   have e:d.toArray[off+j - off]! =x:=by
    rw [Nat.add_sub_cancel_left,getElem!_pos _ _ (by simpa using (List.getElem?_eq_some_iff.1 hdj).1)]
    simpa using (List.getElem?_eq_some_iff.1 hdj).2
   rw [e]
  ·simp [Go.Sort.grow,Go.Sort.putRow,Go.Sort.mapBlock,Go.Sort.ahead]
  ·rw [Go.Sort.heap_grow_old _ _ (by simp [Go.Sort.putRow,Go.Sort.mapBlock,Go.Sort.ahead];exact hlb)]
   simp only [Go.Sort.putRow,Go.Sort.mapBlock,Go.Sort.ahead,Array.getElem?_modify];rw [if_neg (by intro h;exact hn h.symm)]
theorem sort_own (w:World) (base g off cap:Nat) (l:List Int) (h:Own w base 3 encZ (.slice (some ⟨g,off,none⟩) l.length cap) l) (hb:base≤w.heap.size) (hm:l.length≤1000000000000) :
 Calls Tryz.prog 118 #[.slice (some ⟨g,off,none⟩) l.length cap] w fun e w'=>e=.returned (.tuple #[])∧Own w' base 3 encZ (.slice (some ⟨g,off,none⟩) l.length cap) (l.mergeSort fun x y=>decide (x≤y))∧Turn (fun b=>b=g) w w'∧base≤g:=by
 refine(Go.Proofs.Tryz.slices_Sort_int g off cap l w h.holdsZ ((h.lt g rfl).2) (by omega)).mono ?_;rintro e w' ⟨rfl,n,os,rfl⟩;have hl: (l.mergeSort fun x y=>decide (x≤y)).length=l.length:=List.length_mergeSort _;obtain⟨h1,h2,h3⟩:=h.putZ (l.mergeSort fun x y=>decide (x≤y)) (l.mergeSort fun x y=>decide (x≤y)) hl [] (by simp) n os;rw [hl] at h1;exact⟨rfl,h1,h2,h3⟩
theorem compact_own (w:World) (base g off cap:Nat) (l:List Int) (h:Own w base 3 encZ (.slice (some ⟨g,off,none⟩) l.length cap) l) (hm:l.length≤1000000000000) :
 Calls Tryz.prog 119 #[.slice (some ⟨g,off,none⟩) l.length cap] w fun e w'=>e=.returned (.slice (some ⟨g,off,none⟩) (Lib.compact l).length cap)∧Own w' base 3 encZ (.slice (some ⟨g,off,none⟩) (Lib.compact l).length cap) (Lib.compact l)∧Turn (fun b=>b=g) w w'∧base≤g:=by
 have hc:=h.len_le;have hle:=(compact_sub l).length_le;refine(Go.Proofs.Tryz.slices_Compact_int g off cap l w h.holdsZ (by omega) hc.2.1).mono ?_;rintro e w' ⟨rfl,n,rfl⟩;obtain⟨h1,h2,h3⟩:=h.putZ (Lib.compact l ++ List.replicate (l.length - (Lib.compact l).length) 0) (Lib.compact l) (by simp;omega) _ rfl n #[];rw [Go.Sort.grow_empty] at h1 h2;exact⟨rfl,h1,h2,h3⟩
section
attribute [local go_sem] Oper.semAt_some
def endsJ (l:Int) (r1 r2:List Nd) (j:Nat) :List Int:=match j with
 |0=> [0]
 |1=>0 :: edgeL l r1
 |_=>gapE l r1 r2
structure GapDig (w:World) (s l:Nat) (r1 r2:List Nd) (j g K:Nat) (k:Int) (r:List Nd) (F:Nat→Prop) :Prop where
 c:w.cell? ⟨s,j,none⟩ =some (.pointer (some ⟨g,0,none⟩))
 d:DigAt w g K l k r F
 m:r.length≤67108864
 e:endsJ l r1 r2 (j+1) =endsJ l r1 r2 j ++ edgeL l r
 el: (endsJ l r1 r2 j).length≤134217729
def EndsPost (E:List Int) (w:World) (e:Ending) (w':World) :Prop:=∃(b:Nat) (A:Option Addr) (cap:Nat) (L:List Int),e=.returned (.func (.func 120) #[] #[.pointer (some ⟨b,0,none⟩)])∧w.heap.size≤b∧w'.heap[b]? =some (.cells #[.slice A L.length cap] 45 (0,0))∧Own w' w.heap.size 3 encZ (.slice A L.length cap) L∧Rising L E∧L.length≤E.length∧Below w.heap.size w w'
theorem gap_ends (w:World) (s g1 g2 K1 K2 l:Nat) (k1 k2:Int) (r1 r2:List Nd) (F1 F2:Nat→Prop) (hs:w.heap[s]? =some (.cells #[.pointer (some ⟨g1,0,none⟩),.pointer (some ⟨g2,0,none⟩)] 27 (0,0))) (h1:DigAt w g1 K1 l k1 r1 F1) (h2:DigAt w g2 K2 l k2 r2 F2) (m1:r1.length≤67108864) (m2:r2.length≤67108864) :
 Calls Tryz.prog 45 #[.slice (some ⟨s,0,none⟩) 2 2] w (EndsPost (gapE l r1 r2) w):=by
 have HJ:Hid (∀j,j<2→∃g K k r F,GapDig w s l r1 r2 j g K k r F):=LH fun j hj=>by
  have c:=bC hs;rcases (show j=0∨j=1 by omega) with rfl|rfl
  ·exact⟨g1,K1,k1,r1,F1,c 0,h1,m1,rfl,by simp [endsJ]⟩
  ·exact⟨g2,K2,k2,r2,F2,c 1,h2,m2,by simp only [endsJ,gapE,edgeL_append];rfl,by simp only [endsJ,List.length_cons,edgeL_len];omega⟩
 have zs:=lB hs;have hl:=h1.l_le;have HE:=LH (fun (W:World) (id:Int) (h:id≤9223372036854775807)=>twig_Ends W l id h);have HG2:=LH (gapE_len l r1 r2);clear hs h1 h2
 go_enter Tryz.func45,Tryz.ntmps45
 go_upto_region 2 with fail;have O0:=LH (Own.lit (base:=w.heap.size) w encZ [0] 3 (Nat.le_refl _) (by simp [maxLen]));simp only [List.flatMap_cons,List.flatMap_nil,List.append_nil,encZ,List.length_singleton] at O0;have OB:=LH (O0.out.alloc (.cells #[.slice (some ⟨w.heap.size,0,none⟩) 1 1] 45));have KB:=LH (heap_new_at (w.alloc (.cells #[.int .i64 0] 3)) (.cells #[.slice (some ⟨w.heap.size,0,none⟩) 1 1] 45) (w.heap.size+1) (by simp));have BA:Below w.heap.size w ((w.alloc (.cells #[.int .i64 0] 3)).alloc (.cells #[.slice (some ⟨w.heap.size,0,none⟩) 1 1] 45)):=bE;have HBA:=LH BA;clear O0 BA;generalize (w.alloc (.cells #[.int .i64 0] 3)).alloc (.cells #[.slice (some ⟨w.heap.size,0,none⟩) 1 1] 45) =W0 at OB KB HBA⊢;go_wp2_with fail
 go_loopw [15] (fun i wr=>∃j:Nat,j≤2∧i=.int .i64 j∧∃v,wr.heap[w.heap.size+1]? =some (.cells #[v] 45 (0,0))∧Own wr w.heap.size 3 encZ v (endsJ l r1 r2 j)∧Below w.heap.size w wr) (fun i _=>2 - (intOf i).toNat)
 case atStart=>exact⟨0,Nat.zero_le _,rfl,_,KB.out,OB.out,HBA.out⟩
 case round=>
  obtain⟨j,hj,rfl,v,hbox,hown,hB⟩:=hrel;by_cases hlt:j<2
  ·obtain⟨g,K,k,r,F,G⟩:=HJ.out j hlt
   have hsz:=hB.size;have cs:=(hB.cell (p:=⟨s,j,none⟩) zs).trans G.c;have zs':s<wr.heap.size:=by omega
   have HD:=LH (G.d.below hB);have hm:=G.m;have EJ:=LH G.e;have hel:=G.el;have hfit:=G.d.fits
   have HX:Hid (∀x∈r,x.1≤9223372036854775807):=LH fun x hx=>by
    have a1:=hfit.lt x hx;have a2:=pow_48 (n:=l) hl.2;omega
   have HBOX:=LH hbox;have HOWN:=LH hown;have HB:=LH hB;obtain⟨D,hD⟩ : ∃D,D=endsJ l r1 r2 j:=⟨_,rfl⟩;rw [←hD] at HOWN EJ hel;clear G hbox hown hB hD hfit;have HBr:=HB.out;go_wp2_with fail;refine(digest_Conf _ g K l k r F HD.out).mono ?_;rintro e w1 ⟨rfl,hb1⟩;have B1:Below w.heap.size w w1:=Below.then_ bE hb1;have s1:=B1.size;have BB1:=LH (HB.out.trans (hb1.mono HB.out.size));have HD1:=LH (HD.out.below hb1);have BX1:=LH (bB HBOX.out hb1);have OW1:=LH (HOWN.out.below hb1);clear hb1 HBr;go_wp2_with fail;refine(digest_Nodes _ g K l k r F HD1.out hm).mono ?_;rintro e w2 ⟨vn,rfl,ho2,hb2⟩;have BB2:=LH (BB1.out.trans (hb2.mono BB1.out.size));have BX2:=LH (bB BX1.out hb2);have OW2:=LH (OW1.out.below hb2);obtain⟨An,cn,rfl,_⟩:=ho2.form;have ON2:=LH (ho2.base_le (b:=w.heap.size) BB1.out.size);clear hb2 ho2 HB HD HD1 BB1 BX1 OW1 HBOX HOWN;go_wp2_with fail
   go_loopw [25] (fun i wr=>∃q:Nat,q≤r.length∧i=.int .i64 q∧∃v,wr.heap[w.heap.size+1]? =some (.cells #[v] 45 (0,0))∧Own wr w.heap.size 3 encZ v (D ++ edgeL l (r.take q))∧Own wr w.heap.size 77 encN (.slice An r.length cn) r∧Below w.heap.size w wr) (fun i _=>r.length - (intOf i).toNat)
   case atStart=>exact⟨0,Nat.zero_le _,rfl,_,BX2.out,by simpa [edgeL] using OW2.out,ON2.out,BB2.out⟩
   case round=>
    obtain⟨q,hq,rfl,v5,hbox,hown,hnod,hB⟩:=hrel;have HBOX:=LH hbox;have HOWN:=LH hown;have HNOD:=LH hnod;have HB:=LH hB;have hsz5:=hB.size;have hlen: (D ++ edgeL l (r.take q)).length≤402653185:=by rw [List.length_append,edgeL_len,List.length_take,Nat.min_eq_left hq];omega
    by_cases hlt5:q<r.length
    ·obtain⟨c,off,rfl,hc,hcl⟩:=hnod.sl.at_ hlt5
     have d0:=hcl 0 (.int .i64 r[q].1) rfl;have d1:=hcl 1 (.int .i64 r[q].2) rfl;simp only [Nat.add_zero] at d0;have hx:=HX.out _ (List.getElem_mem hlt5);have E1:=LH (show D ++ edgeL l (r.take (q+1)) = (D ++ edgeL l (r.take q)) ++ [(endsOf l r[q].1).1,(endsOf l r[q].1).2.1] by rw [edgeL_take (l:Int) r hlt5,List.append_assoc]);obtain⟨C,hC⟩ : ∃C,C=D ++ edgeL l (r.take q):=⟨_,rfl⟩;rw [←hC] at HOWN hlen E1;obtain⟨y,hy⟩ : ∃y,y=r[q]:=⟨_,rfl⟩;rw [←hy] at d0 d1 hx E1;have HEy:=LH (HE.out · y.1 hx);generalize endsOf l y.1=t at HEy E1;obtain⟨t1,t2,t3⟩:=t;unfold endsV at HEy;clear hcl hy hnod hx hB hC hbox hown;go_wp2_with fail;refine(HEy.out _).mono ?_;rintro e w6 ⟨rfl,hb6⟩;have BW:Below wr.heap.size wr w6:=((Below.refl wr.heap.size wr).alloc (Nat.le_refl _) _).trans (hb6.mono (by simp));have k6:=bB HBOX.out BW;have c6:=bC k6;have z6:=lB k6;have K6:=LH k6;obtain⟨A6,n6,rfl,_⟩:=HOWN.out.form;have O6:=LH (HOWN.out.below BW);have N6:=LH (HNOD.out.below BW);have B6:=LH (HB.out.trans (BW.mono hsz5));clear BW k6 hb6 HBOX HOWN HNOD HB;go_wp2_with ((at_builtin;refine wpList_pushes tyZ rfl _ _ rfl encZ w6 w.heap.size (.slice A6 C.length n6) C rfl O6.out [t1,t2] 2 rfl (by go_simp) rfl ?c1 ?c2 ?c3 ?c4))
     case c1=>simp only [List.length_cons,List.length_nil];omega
     case c2=>simp only [maxLen,List.length_cons,List.length_nil];omega
     case c3=>exact B6.out.size
     case c4=>
      intro v7 w7 ho7 hg7 hlt7 hlies hb7 _;have N7:=LH (N6.out.kept hg7 (own_ne N6.out O6.out (by decide)));have K7:=LH (blk_grown K6.out O6.out hg7 (by decide));have B7:=LH (B6.out.trans hb7);obtain⟨A7,n7,rfl,_⟩:=ho7.form;have O7:=LH (show Own w7 w.heap.size 3 encZ (.slice A7 (C.length+2) n7) (D ++ edgeL l (r.take (q+1))) by rw [E1.out];simpa using ho7);have c7:=bC K7.out;have f7:=bF K7.out;have z7:=lB K7.out;clear ho7 hg7 hlies hb7 K6 O6 N6 B6 c6 z6;go_wp2_with fail;go_roundw
      case rel=>exact⟨q+1,by omega,by go_num,_,zH (i:=0) K7.out _,O7.out.setCell (fun h=>O7.out.ne_block K7.out (by decide) h) _,N7.out.setCell (fun h=>N7.out.ne_block K7.out (by decide) h) _,B7.out.setCell (p:=⟨w.heap.size+1,0,none⟩) (by simp) _⟩
      case measure=>simp [intOf];omega
    ·obtain rfl:q=r.length:=by omega
     rw [List.take_length] at HOWN;rw [←EJ.out] at HOWN;go_wp2_with fail;go_roundw
     case rel=>exact⟨j+1,by omega,by go_num,_,HBOX.out,HOWN.out,HB.out⟩
     case measure=>simp [intOf];omega
  ·obtain rfl:j=2:=by omega
   have HOWN:=LH (show Own wr w.heap.size 3 encZ v (gapE l r1 r2) from hown);obtain⟨E,hE⟩ : ∃E,E=gapE l r1 r2:=⟨_,rfl⟩;have hE0:0<E.length:=by rw [hE,HG2.out];omega
   have hEl:E.length≤1000000000000:=by rw [hE,HG2.out];omega
   rw [←hE] at HOWN;have HE':=LH hE;rcases HOWN.out with ⟨_,h0⟩ | ⟨ga,off,cap,cur,rfl,hga,_⟩
   ·rw [h0] at hE0;simp at hE0
   ·have HO:=LH (show Own wr w.heap.size 3 encZ (.slice (some ⟨ga,off,none⟩) E.length cap) E from HOWN.out)
    have HBOX:=LH hbox;have HB:=LH hB;have cb:=bC hbox;have zb:=lB hbox;clear hown hbox hB hE HOWN HJ HE;go_wp2_with fail;refine(sort_own _ w.heap.size ga off cap E HO.out HB.out.size hEl).mono ?_;rintro e w1 ⟨rfl,hs1,ht1,_⟩
    have hne:w.heap.size+1≠ga:=fun h=>by
     have:=HO.out.ne_block HBOX.out (by decide);exact this (by rw [h];rfl)
    have K1:=LH (ht1.keep HBOX.out hne);have B1:=LH (HB.out.trans (ht1.below (base:=w.heap.size) (fun b hb=>by rw [hb];exact hga) HB.out.size));have hl1: (E.mergeSort fun x y=>decide (x≤y)).length=E.length:=List.length_mergeSort _;have hr:=compact_rising E;have hle:=compact_len_le E;obtain⟨S,hS⟩ : ∃S,S=E.mergeSort fun x y=>decide (x≤y):=⟨_,rfl⟩;rw [←hS] at hs1 hl1 hr hle;have O1:=LH (show Own w1 w.heap.size 3 encZ (.slice (some ⟨ga,off,none⟩) S.length cap) S by rw [hl1];exact hs1);have hc:=compact_own w1 w.heap.size ga off cap S O1.out (by rw [hl1];exact hEl);rw [hl1] at hc;have HC:=LH hc;have c1:=bC K1.out;have f1:=bF K1.out;have z1:=lB K1.out;clear hs1 ht1 hl1 hS cb zb HBOX HB HO hc;go_wp2_with fail;refine HC.out.mono ?_;rintro e w2 ⟨rfl,hc2,ht2,_⟩;have K2:=LH (ht2.keep K1.out hne);have B2:=LH (B1.out.trans (ht2.below (base:=w.heap.size) (fun b hb=>by rw [hb];exact hga) B1.out.size));obtain⟨L,hL⟩ : ∃L,L=Lib.compact S:=⟨_,rfl⟩;rw [←hL] at hc2 hr hle⊢;have O2:=LH hc2;have c2:=bC K2.out;have f2:=bF K2.out;have z2:=lB K2.out;clear hc2 ht2 hL c1 f1 z1 K1 O1 B1;go_wp2_with fail;go_ret;exact⟨w.heap.size+1,some ⟨ga,off,none⟩,cap,L,rfl,by omega,zH (i:=0) K2.out _,O2.out.setCell (fun h=>O2.out.ne_block K2.out (by decide) h) _,HE'.out ▸ hr,HE'.out ▸ hle,B2.out.setCell (p:=⟨w.heap.size+1,0,none⟩) (by simp) _⟩
end
section
attribute [local go_sem] Oper.semAt_some
theorem ends_stops (n b z:Nat) (X:Nat→Prop) (A:Option Addr) (cap:Nat) (L:List Int) (w:World) (hn:1≤n) (hz:z≤w.heap.size)
 (hb:w.heap[b]? =some (.cells #[.slice A L.length cap] 45 (0,0))) (hS:SlX w z X A L) (b1:b<z) (b2: ¬X b) (hlen:L.length≤1000000000000) :
 SeqStopsK Fence.wide n Tryz.prog 120 #[.pointer (some ⟨b,0,none⟩)] (fun x:Int=> #[Value.int .i64 x]) (KeepX z X) (fun ys=>ys=L) (fun pre=>pre <+: L) L.length w:=fun q J Jx W hW hJ hJx hY h0=>by
 have hWz:Below z w W:=hW.mono hz;have kb:=LH (bB hb hW);have KS:=LH (hS.below hWz);have cb:=bC kb.out;have zb:=lB kb.out;have HY:=LH hY;have H0:=LH h0;clear hb hS hY hJ hJx h0;refine callsIn_of_wp Tryz.func120 rfl trivial ?_ rfl;simp only [Tryz.ntmps120,List.size_toArray,List.length_cons,List.length_nil,Nat.reduceAdd,Nat.reduceSub,Array.replicate_succ,Array.replicate_zero,List.push_toArray,List.append_toArray,List.nil_append,List.cons_append]
 gi_wp2_with fail
 gi_loopw [7] (fun i wr=>∃k:Nat,k≤L.length∧i=.int .i64 k∧J (L.take k) wr∧KeepX z X W wr) (fun i _=>L.length - (intOf i).toNat)
 case atStart=>exact⟨0,Nat.zero_le _,rfl,H0.out,KeepX.refl _⟩
 case round=>
  obtain⟨k,hk,rfl,hJk,hK⟩:=hrel;have KJ:=LH hJk;have KK:=LH hK;by_cases hlt:k<L.length
  ·obtain⟨c,off,rfl,hc,hcl⟩:=(KS.out.keep hK).at_ hlt
   have zc:c<wr.heap.size:=by have:=hK.1;have:=hW.size;omega
   have hT:=List.take_succ_eq_append_getElem hlt;obtain⟨x,hx⟩ : ∃x,x=L[k]:=⟨_,rfl⟩;rw [←hx] at hcl hT;obtain⟨fn,tmps,assign,body,hy,hR⟩:=HY.out (L.take k) x _ KJ.out (by rw [List.length_take];omega);rw [←hT] at hR;clear hx hT hJk hK
   gi_wp2_with fail
   refine hR.mono ?_;rintro e w3 (⟨rfl,hJ3,hk3⟩ | ⟨rfl,hJx3⟩)
   ·have K3:=LH (keepX_t KK.out hk3)
    have J3:=LH hJ3;clear hJ3 hk3
    gi_wp2_with fail
    go_roundw
    case rel=>exact⟨k+1,by omega,by go_num,J3.out,K3.out⟩
    case measure=>simp [intOf];omega
   ·have J3:=LH hJx3
    clear hJx3
    gi_wp2_with fail
    refine bR (results_none rfl _ _ _) rfl ?_;exact⟨⟨_,rfl⟩,.inr ⟨_,List.take_prefix _ _,J3.out⟩⟩
  ·obtain rfl:k=L.length:=by omega
   rw [List.take_length] at KJ
   gi_wp2_with fail
   go_end0
   exact⟨⟨_,rfl⟩,.inl ⟨_,rfl,KJ.out⟩⟩
end
section
attribute [local go_sem] Oper.semAt_some
def apT (l m:Int) (a b:List Nd) :Int×Int:=if gapErr l m a b=0 then apFold (sideOf l a b) (gapE l a b) else (0,0)
theorem gap_side_of {w:World} {L1 B1 g1 L2 B2 g2 l:Nat} {lt1 ft1 lt2 ft2 r1 r2:List Nd} (x:Int) (h1:TabAt w L1 B1 g1 (sumR r1) lt1 ft1) (h2:TabAt w L2 B2 g2 (sumR r2) lt2 ft2) (b1:B1≤w.heap.size) (b2:B2≤w.heap.size)
 (t1:Tab (lastL l r1) lt1) (f1:Tab (firstL l r1) ft1) (t2:Tab (lastL l r2) lt2) (f2:Tab (firstL l r2) ft2) (m1:lt1.length≤67108864) (m1':ft1.length≤67108864) (m2:lt2.length≤67108864) (m2':ft2.length≤67108864) (fit1:Fits l r1) (fit2:Fits l r2) :
 Calls Tryz.prog 46 #[.pointer (some ⟨g1,0,none⟩),.pointer (some ⟨g2,0,none⟩),.int .i64 x] w fun e w'=>e=.returned (.int .i64 (sideOf l r1 r2 x))∧Below w.heap.size w w':=by
 have z1:=sumR_nonneg fit1.roll;have z2:=sumR_nonneg fit2.roll;have y1:=fit1.sum;have y2:=fit2.sum;have a1:=low_range (l:=l) fit1.roll x;have a2:=high_range' (l:=l) fit1.roll x;have a3:=low_range (l:=l) fit2.roll x;have a4:=high_range' (l:=l) fit2.roll x;obtain⟨n,e1⟩:=Int.eq_ofNat_of_zero_le z1;obtain⟨m,e2⟩:=Int.eq_ofNat_of_zero_le z2;obtain⟨pl,e3⟩:=Int.eq_ofNat_of_zero_le a1.1;obtain⟨ph,e4⟩:=Int.eq_ofNat_of_zero_le a2.1;obtain⟨ql,e5⟩:=Int.eq_ofNat_of_zero_le a3.1;obtain⟨qh,e6⟩:=Int.eq_ofNat_of_zero_le a4.1;unfold sideOf;rw [e1] at h1;rw [e2] at h2;rw [e1,e2,e3,e4,e5,e6,sideV_nat]
 exact gap_side w x n m pl ph ql qh h1 h2 b1 b2 m1 t1.rise m1' f1.rise m2 t2.rise m2' f2.rise
  (by rw [t1.upT,low_up];exact e3) (by rw [f1.upT,high_up];exact e4) (by rw [t2.upT,low_up];exact e5) (by rw [f2.upT,high_up];exact e6) (by omega) (by omega) (by omega) (by omega) (by omega) (by omega)
structure ApI (b4 bt bu t1 t2 L1 B1 L2 B2:Nat) (n m:Int) (lt1 ft1 lt2 ft2:List Nd) (W:World) :Prop where
 x4:W.heap[b4]? =some (.cells #[.int .i64 0] 3 (0,0))
 x5:W.heap[b4+1]? =some (.cells #[.int .i64 0] 3 (0,0))
 x6:W.heap[b4+1+1]? =some (.cells #[.int .i64 0] 41 (0,0))
 t:W.heap[bt]? =some (.cells #[.pointer (some ⟨t1,0,none⟩)] 37 (0,0))
 u:W.heap[bu]? =some (.cells #[.pointer (some ⟨t2,0,none⟩)] 37 (0,0))
 tab1:TabAt W L1 B1 t1 n lt1 ft1
 tab2:TabAt W L2 B2 t2 m lt2 ft2
theorem ApI.below {b4 bt bu t1 t2 L1 B1 L2 B2:Nat} {n m:Int} {lt1 ft1 lt2 ft2:List Nd} {W W':World} (h:ApI b4 bt bu t1 t2 L1 B1 L2 B2 n m lt1 ft1 lt2 ft2 W) (hb:Below W.heap.size W W') (h1:B1≤W.heap.size) (h2:B2≤W.heap.size) :ApI b4 bt bu t1 t2 L1 B1 L2 B2 n m lt1 ft1 lt2 ft2 W':=
 ⟨bB h.x4 hb,bB h.x5 hb,bB h.x6 hb,bB h.t hb,bB h.u hb,h.tab1.below (hb.mono h1),h.tab2.below (hb.mono h2)⟩
theorem ApI.grown {b4 bt bu t1 t2 L1 B1 L2 B2:Nat} {n m:Int} {lt1 ft1 lt2 ft2:List Nd} {A B:World} {row:Option Nat} (h:ApI b4 bt bu t1 t2 L1 B1 L2 B2 n m lt1 ft1 lt2 ft2 A) (hg:A.grownBy B row) (hr: ∀r,row=some r→∃o:Obj,A.heap[r]? =some o∧o.isCells=false) :ApI b4 bt bu t1 t2 L1 B1 L2 B2 n m lt1 ft1 lt2 ft2 B:=
 ⟨row_grown h.x4 hg hr,row_grown h.x5 hg hr,row_grown h.x6 hg hr,row_grown h.t hg hr,row_grown h.u hg hr,tab_grown h.tab1 hg hr,tab_grown h.tab2 hg hr⟩
structure Res3 (b:Nat) (x y z:Value) (W:World) :Prop where
 r4:W.heap[b]? =some (.cells #[x] 3 (0,0))
 r5:W.heap[b+1]? =some (.cells #[y] 3 (0,0))
 r6:W.heap[b+1+1]? =some (.cells #[z] 41 (0,0))
theorem Res3.put {b:Nat} {x y z:Value} {W:World} (h:Res3 b x y z W) (x' y' z':Value) :Res3 b x' y' z' (((W.setCell ⟨b,0,none⟩ x').setCell ⟨b+1,0,none⟩ y').setCell ⟨b+1+1,0,none⟩ z'):=
 ⟨(Below.heap_setCell _ _ _ _ (show b≠b+1+1 by omega)).trans ((Below.heap_setCell _ _ _ _ (show b≠b+1 by omega)).trans (zH (i:=0) h.r4 _)),
  (Below.heap_setCell _ _ _ _ (show b+1≠b+1+1 by omega)).trans (zH (i:=0) ((Below.heap_setCell _ _ _ _ (show b+1≠b by omega)).trans h.r5) _),
  zH (i:=0) ((Below.heap_setCell _ _ _ _ (show b+1+1≠b+1 by omega)).trans ((Below.heap_setCell _ _ _ _ (show b+1+1≠b by omega)).trans h.r6)) _⟩
theorem Res3.below {b:Nat} {x y z:Value} {W W':World} (h:Res3 b x y z W) (hb:Below W.heap.size W W') :Res3 b x y z W':=⟨bB h.r4 hb,bB h.r5 hb,bB h.r6 hb⟩
theorem Res3.grown {b:Nat} {x y z:Value} {A B:World} {row:Option Nat} (h:Res3 b x y z A) (hg:A.grownBy B row) (hr: ∀r,row=some r→∃o:Obj,A.heap[r]? =some o∧o.isCells=false) :Res3 b x y z B:=⟨row_grown h.r4 hg hr,row_grown h.r5 hg hr,row_grown h.r6 hg hr⟩
theorem Res3.new (w:World) :Res3 w.heap.size (.int .i64 0) (.int .i64 0) (.int .i64 0) (((w.alloc (.cells #[.int .i64 0] 3)).alloc (.cells #[.int .i64 0] 3)).alloc (.cells #[.int .i64 0] 41)):=
 ⟨(heap_new_lt _ _ _ (by simp;omega)).trans ((heap_new_lt _ _ _ (by simp)).trans (heap_alloc_new w _)),(heap_new_lt _ _ _ (by simp)).trans (heap_new_at (w.alloc _) _ _ (by simp)),heap_new_at ((w.alloc _).alloc _) _ _ (by simp)⟩
theorem Res3.put_below {w W:World} {b:Nat} (hB:Below w.heap.size w W) (hb:w.heap.size≤b) (x' y' z':Value) :Below w.heap.size w (((W.setCell ⟨b,0,none⟩ x').setCell ⟨b+1,0,none⟩ y').setCell ⟨b+1+1,0,none⟩ z'):=
 ((hB.setCell (p:=⟨b,0,none⟩) hb _).setCell (p:=⟨b+1,0,none⟩) (by simp only;omega) _).setCell (p:=⟨b+1+1,0,none⟩) (by simp only;omega) _
theorem gap_Apart_no (w:World) (g1 K1 l1 g2 K2 l2:Nat) (k1 k2:Int) (r1 r2:List Nd) (F1 F2:Nat→Prop) (h1:DigAt w g1 K1 l1 k1 r1 F1) (h2:DigAt w g2 K2 l2 k2 r2 F2) (he:gapErr l1 l2 r1 r2≠0) :
 Calls Tryz.prog 15 #[.pointer (some ⟨g1,0,none⟩),.pointer (some ⟨g2,0,none⟩)] w fun e w'=>e=.returned (.tuple #[.int .i64 (apT l1 l2 r1 r2).1,.int .i64 (apT l1 l2 r1 r2).2,.int .i64 (gapErr l1 l2 r1 r2)])∧Below w.heap.size w w':=by
 have hs:apT l1 l2 r1 r2= (0,0):=by unfold apT;rw [if_neg he]
 rw [hs];have HW:=LH (gap_wrong _ g1 K1 l1 g2 K2 l2 k1 k2 r1 r2 F1 F2 (((h1.alloc (.cells #[.int .i64 0] 3)).alloc (.cells #[.int .i64 0] 3)).alloc (.cells #[.int .i64 0] 41)) (((h2.alloc (.cells #[.int .i64 0] 3)).alloc (.cells #[.int .i64 0] 3)).alloc (.cells #[.int .i64 0] 41)));have hne: (gapErr l1 l2 r1 r2 == 0) =false:=by simpa using he
 clear hs he h1 h2;generalize gapErr l1 l2 r1 r2=er at HW hne⊢;refine(callsIn_wide (n:=3)).1 ?_;refine callsIn_of_wp_marks Tryz.func15 rfl trivial ?_ rfl;simp only [Tryz.ntmps15,List.size_toArray,List.length_cons,List.length_nil,Nat.reduceAdd,Nat.reduceSub,Array.replicate_succ,Array.replicate_zero,List.push_toArray,List.append_toArray,List.nil_append,List.cons_append]
 gi_wp2_with fail
 refine⟨trivial,?_⟩;refine(callsIn_wide.2 HW.out).mono ?_;rintro e w1 ⟨rfl,hb1⟩;have B1:Below w.heap.size w w1:=Below.then_ bE hb1;have R1:=(Res3.new w).below hb1;have c4:=bC R1.r4;have c5:=bC R1.r5;have c6:=bC R1.r6;have f4:=bF R1.r4;have f5:=bF R1.r5;have f6:=bF R1.r6;have z4:=lB R1.r4;have z5:=lB R1.r5;have z6:=lB R1.r6;have R2:=LH (R1.put (.int .i64 0) (.int .i64 0) (.int .i64 er));have B2:=LH (Res3.put_below B1 (Nat.le_refl _) (.int .i64 0) (.int .i64 0) (.int .i64 er));clear R1 hb1
 gi_wp2_with fail
 generalize ((w1.setCell ⟨w.heap.size,0,none⟩ (.int .i64 0)).setCell ⟨w.heap.size+1,0,none⟩ (.int .i64 0)).setCell ⟨w.heap.size+1+1,0,none⟩ (.int .i64 er) =W2 at R2 B2⊢;have d4:=bC R2.out.r4 0;have d5:=bC R2.out.r5 0;have d6:=bC R2.out.r6 0;exact⟨.tuple #[.int .i64 0,.int .i64 0,.int .i64 er],by simp [results,Tryz.f15,go_sem,d4,d5,d6],rfl,B2.out⟩
theorem gap_Apart_yes (w:World) (g1 K1 l g2 K2:Nat) (k1 k2:Int) (r1 r2:List Nd) (F1 F2:Nat→Prop) (h1:DigAt w g1 K1 l k1 r1 F1) (h2:DigAt w g2 K2 l k2 r2 F2) (m1:r1.length≤67108864) (m2:r2.length≤67108864) (he:gapErr l l r1 r2=0) :
 Calls Tryz.prog 15 #[.pointer (some ⟨g1,0,none⟩),.pointer (some ⟨g2,0,none⟩)] w fun e w'=>e=.returned (.tuple #[.int .i64 (apT l l r1 r2).1,.int .i64 (apT l l r1 r2).2,.int .i64 0])∧Below w.heap.size w w':=by
 have hs:apT l l r1 r2=apFold (sideOf l r1 r2) (gapE l r1 r2):=by unfold apT;rw [if_pos he]
 rw [hs];have D1:=LH (((h1.alloc (.cells #[.int .i64 0] 3)).alloc (.cells #[.int .i64 0] 3)).alloc (.cells #[.int .i64 0] 41));have D2:=LH (((h2.alloc (.cells #[.int .i64 0] 3)).alloc (.cells #[.int .i64 0] 3)).alloc (.cells #[.int .i64 0] 41));have HW:=LH (gap_wrong _ g1 K1 l g2 K2 l k1 k2 r1 r2 F1 F2 D1.out D2.out);rw [he] at HW;have fit1:=h1.fits;have fit2:=h2.fits;have FIT:=LH (And.intro fit1 fit2);have HGE:=LH (gapE_len l r1 r2);clear hs he h1 h2 fit1 fit2;refine(callsIn_wide (n:=3)).1 ?_;refine callsIn_of_wp_marks Tryz.func15 rfl trivial ?_ rfl;simp only [Tryz.ntmps15,List.size_toArray,List.length_cons,List.length_nil,Nat.reduceAdd,Nat.reduceSub,Array.replicate_succ,Array.replicate_zero,List.push_toArray,List.append_toArray,List.nil_append,List.cons_append]
 gi_wp2_with fail
 refine⟨trivial,?_⟩;refine(callsIn_wide.2 HW.out).mono ?_;rintro e w1 ⟨rfl,hb1⟩;have B1:Below w.heap.size w w1:=Below.then_ bE hb1;have R1:=LH ((Res3.new w).below hb1);have E1:=LH (D1.out.below hb1);have E2:=LH (D2.out.below hb1);have s1:=B1.size;have s1':w.heap.size+3≤w1.heap.size:=by have:=hb1.size;simp at this;omega
 clear hb1 HW D1 D2
 gi_wp2_with fail
 refine⟨trivial,?_⟩;refine(callsIn_wide.2 (rank_Of _ g1 K1 l k1 r1 F1 E1.out m1)).mono ?_;rintro e w2 ⟨t1,lt1,ft1,rfl,htab1,htl1,htf1,hl1,hl1',hb2⟩;have B2:Below w.heap.size w w2:=B1.trans (hb2.mono s1);have R2:=LH (R1.out.below hb2);have G1:=LH (E1.out.below hb2);have G2:=LH (E2.out.below hb2);have T1:=LH htab1;have HT1:=LH (And.intro htl1 (And.intro htf1 (And.intro hl1 hl1')));have s2:=hb2.size;clear hb2 htab1 htl1 htf1 hl1 hl1' E1 E2 R1
 gi_wp2_with fail
 refine⟨trivial,?_⟩;refine(callsIn_wide.2 (rank_Of _ g2 K2 l k2 r2 F2 G2.out m2)).mono ?_;rintro e w3 ⟨t2,lt2,ft2,rfl,htab2,htl2,htf2,hl2,hl2',hb3⟩;have B3:Below w.heap.size w w3:=B2.trans (hb3.mono B2.size);have R3:=LH (R2.out.below hb3);have J1:=LH (G1.out.below hb3);have J2:=LH (G2.out.below hb3);have U1:=LH (T1.out.below hb3);have U2:=LH htab2;have HT2:=LH (And.intro htl2 (And.intro htf2 (And.intro hl2 hl2')));have s3:=hb3.size;clear hb3 htab2 htl2 htf2 hl2 hl2' G1 G2 R2 T1
 gi_wp2_with fail
 have BA:Below w3.heap.size w3 (((w3.alloc (.cells #[.pointer (some ⟨t1,0,none⟩)] 37)).alloc (.cells #[.pointer (some ⟨t2,0,none⟩)] 37)).alloc (.cells #[.pointer (some ⟨g1,0,none⟩),.pointer (some ⟨g2,0,none⟩)] 27)):=((((Below.refl w3.heap.size w3).alloc (Nat.le_refl _) _).alloc (by simp) _).alloc (by simp;omega) _);have kt:=(heap_new_lt ((w3.alloc (.cells #[.pointer (some ⟨t1,0,none⟩)] 37)).alloc (.cells #[.pointer (some ⟨t2,0,none⟩)] 37)) (.cells #[.pointer (some ⟨g1,0,none⟩),.pointer (some ⟨g2,0,none⟩)] 27) w3.heap.size (by simp;omega)).trans ((heap_new_lt (w3.alloc (.cells #[.pointer (some ⟨t1,0,none⟩)] 37)) (.cells #[.pointer (some ⟨t2,0,none⟩)] 37) w3.heap.size (by simp)).trans (heap_alloc_new w3 (.cells #[.pointer (some ⟨t1,0,none⟩)] 37)));have ku:=(heap_new_lt ((w3.alloc (.cells #[.pointer (some ⟨t1,0,none⟩)] 37)).alloc (.cells #[.pointer (some ⟨t2,0,none⟩)] 37)) (.cells #[.pointer (some ⟨g1,0,none⟩),.pointer (some ⟨g2,0,none⟩)] 27) (w3.heap.size+1) (by simp)).trans (heap_new_at (w3.alloc (.cells #[.pointer (some ⟨t1,0,none⟩)] 37)) (.cells #[.pointer (some ⟨t2,0,none⟩)] 37) (w3.heap.size+1) (by simp));have ks:=heap_new_at ((w3.alloc (.cells #[.pointer (some ⟨t1,0,none⟩)] 37)).alloc (.cells #[.pointer (some ⟨t2,0,none⟩)] 37)) (.cells #[.pointer (some ⟨g1,0,none⟩),.pointer (some ⟨g2,0,none⟩)] 27) (w3.heap.size+1+1) (by simp)
 have I4:ApI w.heap.size w3.heap.size (w3.heap.size+1) t1 t2 w1.heap.size w2.heap.size w2.heap.size w3.heap.size (sumR r1) (sumR r2) lt1 ft1 lt2 ft2 (((w3.alloc (.cells #[.pointer (some ⟨t1,0,none⟩)] 37)).alloc (.cells #[.pointer (some ⟨t2,0,none⟩)] 37)).alloc (.cells #[.pointer (some ⟨g1,0,none⟩),.pointer (some ⟨g2,0,none⟩)] 27)):=
  ⟨(R3.out.below BA).r4,(R3.out.below BA).r5,(R3.out.below BA).r6,kt,ku,U1.out.below (BA.mono s3),U2.out.below BA⟩
 have II:=LH I4;have KS:=LH ks;have M1:=LH (J1.out.below BA);have M2:=LH (J2.out.below BA);have BB:=LH (B3.trans (BA.mono B3.size));have sA:=BA.size;have sA3:w3.heap.size+3≤(((w3.alloc (.cells #[.pointer (some ⟨t1,0,none⟩)] 37)).alloc (.cells #[.pointer (some ⟨t2,0,none⟩)] 37)).alloc (.cells #[.pointer (some ⟨g1,0,none⟩),.pointer (some ⟨g2,0,none⟩)] 27)).heap.size:=by simp
 clear BA kt ku ks I4 J1 J2 U1 U2 R3;generalize ((w3.alloc (.cells #[.pointer (some ⟨t1,0,none⟩)] 37)).alloc (.cells #[.pointer (some ⟨t2,0,none⟩)] 37)).alloc (.cells #[.pointer (some ⟨g1,0,none⟩),.pointer (some ⟨g2,0,none⟩)] 27) =W4 at II KS M1 M2 BB sA sA3⊢;refine⟨trivial,?_⟩;refine(callsIn_wide.2 (gap_ends _ (w3.heap.size+1+1) g1 g2 K1 K2 l k1 k2 r1 r2 F1 F2 KS.out M1.out M2.out m1 m2)).mono ?_;rintro e w5 ⟨b,A,cap,L,rfl,hb0,kb,ho,hrise,hle,hb5⟩;have I5:=LH (II.out.below hb5 (by omega) (by omega));have BB5:=LH (BB.out.trans (hb5.mono BB.out.size));have KB:=LH kb;have zb:=lB kb;have SX:=LH (SlX.of (z:=w5.heap.size) (X:=fun _=>False) ho.sl (Nat.le_refl _) (fun _ _ h=>h));have HR:=LH hrise;have hL:L.length≤1000000000000:=by rw [HGE.out] at hle;omega
 have s5:=hb5.size;clear kb ho hrise hle hb5 II KS M1 M2 BB
 gi_wp2_with fail
 have hKB:=LH (fun (W:World) (q:Nat) (o o':Obj) (h:W.heap[q]? =some o) (hc:o.isCells=false)=>keepX_b (z:=w5.heap.size) (X:=fun _=>False) W q o o' h hc);obtain⟨f,hf⟩ : ∃f,f=sideOf l r1 r2:=⟨_,rfl⟩
 have HS:Hid (∀(x:Int) (W:World),ApI w.heap.size w3.heap.size (w3.heap.size+1) t1 t2 w1.heap.size w2.heap.size w2.heap.size w3.heap.size (sumR r1) (sumR r2) lt1 ft1 lt2 ft2 W→Calls Tryz.prog 46 #[.pointer (some ⟨t1,0,none⟩),.pointer (some ⟨t2,0,none⟩),.int .i64 x] W fun e w'=>e=.returned (.int .i64 (f x))∧Below W.heap.size W w'):=LH fun x W h=>by
  have hz:=lB h.t;obtain⟨q1,q2,q3,q4⟩:=HT1.out;obtain⟨p1,p2,p3,p4⟩:=HT2.out;rw [hf];exact gap_side_of x h.tab1 h.tab2 (by omega) (by omega) q1 q2 p1 p2 (by omega) (by omega) (by omega) (by omega) FIT.out.1 FIT.out.2
 have HF:=LH hf;clear hf HT1 HT2 FIT HGE
 refine wpIn_rangeFunc_ownG rfl (by decide) (gf:=120) (lb:= #[.pointer (some ⟨b,0,none⟩)]) rfl trivial (enters_of Tryz.func120 (by kernel_rfl) rfl)
  (ends_stops (3 - 1) b w5.heap.size (fun _=>False) A cap L w5 (by decide) (Nat.le_refl _) KB.out SX.out zb (fun h=>h) hL)
  keepX_t (fun W q o o' _ h hc _=>hKB.out W q o o' h hc) (Below.refl _ _) (fun _=>rfl)
  (fun pre W=>((∀y∈pre,f y=0)∧ApI w.heap.size w3.heap.size (w3.heap.size+1) t1 t2 w1.heap.size w2.heap.size w2.heap.size w3.heap.size (sumR r1) (sumR r2) lt1 ft1 lt2 ft2 W)∧Below w.heap.size w W)
  (fun c pre W=>(c=.ret∧∃pre' x,pre=pre' ++ [x]∧(∀y∈pre',f y=0)∧f x≠0∧Res3 w.heap.size (.int .i64 x) (.int .i64 (f x)) (.int .i64 0) W)∧Below w.heap.size w W)
  (OwnFrom.and (Go.Own.from (fun s A B row hs hg hr=>⟨hs.1,hs.2.grown hg hr⟩) _) (ownFrom_below (Nat.le_refl _) (by have:=BB5.out.size;omega)))
  (fun c=>OwnFrom.and (Go.Own.from (fun s A B row hs hg hr=>by obtain⟨h1,p,x,h2,h3,h4,h5⟩:=hs;exact⟨h1,p,x,h2,h3,h4,h5.grown hg hr⟩) _) (ownFrom_below (Nat.le_refl _) (by have:=BB5.out.size;omega)))
  ⟨⟨by simp,I5.out⟩,BB5.out⟩
  (fun x=>{tmps:= #[.pointer (some ⟨g1,0,none⟩),.pointer (some ⟨g2,0,none⟩),undef,undef,.pointer (some ⟨w.heap.size,0,none⟩),.pointer (some ⟨w.heap.size+1,0,none⟩),.pointer (some ⟨w.heap.size+1+1,0,none⟩),.int .i64 0,.pointer (some ⟨w3.heap.size,0,none⟩),.pointer (some ⟨w3.heap.size+1,0,none⟩),.int .i64 x,undef,
    .pointer (some ⟨g1,0,none⟩),.pointer (some ⟨g2,0,none⟩),.int .i64 0,.int .i64 0,.bool false,undef,.pointer (some ⟨g1,0,none⟩),.pointer (some ⟨t1,0,none⟩),.pointer (some ⟨g2,0,none⟩),.pointer (some ⟨t2,0,none⟩),.pointer (some ⟨g1,0,none⟩),.pointer (some ⟨g2,0,none⟩),.slice (some ⟨w3.heap.size+1+1,0,none⟩) 2 2,
    .func (.func 120) #[] #[.pointer (some ⟨b,0,none⟩)],.int .i64 x,undef,undef,undef,undef,undef,undef,undef,undef],defers:= []}) ?assign ?body ?done ?stop
 case assign=>
  intro q x W Kc hK
  gi_wp2
  exact hK
 case body=>
  rintro q pre x W ⟨⟨hall,hI⟩,hB⟩ _;have HALL:=LH hall;have HI:=LH hI;have HB:=LH hB;have ct:=bC hI.t;have cu:=bC hI.u;have zt:=lB hI.t;have zu:=lB hI.u;have HSx:=LH (HS.out x);obtain⟨n,hn⟩ : ∃n,n=f x:=⟨_,rfl⟩;rw [←hn] at HSx;have HN:=LH hn;have zt0:=hI.t;clear hall hI hB hn HS;by_cases hz:n=0
  ·subst hz
   gi_wp2_with fail
   refine⟨trivial,?_⟩;refine(CallsIn.inRound q (callsIn_wide.2 (HSx.out _ HI.out))).mono ?_;rintro e w6 ⟨rfl,hb6⟩;have KF:=LH ((KeepsOthers.of_grownBy (grownBy_of_below hb6 none) (fun _ _ h=>by cases h)).from w5.heap.size);have KK:=LH (KeepX.of_below (z:=w5.heap.size) (X:=fun _=>False) hb6);have I6:=LH (HI.out.below hb6 (by omega) (by omega));have B6:=LH (HB.out.trans (hb6.mono HB.out.size));clear hb6
   gi_wp2_with fail
   refine⟨KF.out,KK.out,⟨fun y hy=> ?_,I6.out⟩,B6.out⟩;rcases List.mem_append.1 hy with hy|hy
   ·exact HALL.out y hy
   ·rw [List.mem_singleton.1 hy];exact HN.out.symm
  ·have h1: (n == 0) =false:=by simpa using hz
   have h2: (n != 0) =true:=by simpa using hz
   gi_wp2_with fail
   refine⟨trivial,?_⟩;refine(CallsIn.inRound q (callsIn_wide.2 (HSx.out _ HI.out))).mono ?_;rintro e w6 ⟨rfl,hb6⟩;have KF:=LH ((KeepsOthers.of_grownBy (grownBy_of_below hb6 none) (fun _ _ h=>by cases h)).from w5.heap.size);have R6:Res3 w.heap.size (.int .i64 0) (.int .i64 0) (.int .i64 0) w6:=⟨bB HI.out.x4 hb6,bB HI.out.x5 hb6,bB HI.out.x6 hb6⟩;have B6:=HB.out.trans (hb6.mono HB.out.size);have c4:=bC R6.r4;have c5:=bC R6.r5;have c6:=bC R6.r6;have f4:=bF R6.r4;have f5:=bF R6.r5;have f6:=bF R6.r6;have z4:=lB R6.r4;have z5:=lB R6.r5;have z6:=lB R6.r6;have R7:=LH (R6.put (.int .i64 x) (.int .i64 n) (.int .i64 0));have B7:=LH (Res3.put_below B6 (Nat.le_refl _) (.int .i64 x) (.int .i64 n) (.int .i64 0));clear hb6 R6 B6
   gi_wp2_with fail
   exact⟨((KF.out.trans ((KeepsOthers.setCell _ _ _).from _)).trans ((KeepsOthers.setCell _ _ _).from _)).trans ((KeepsOthers.setCell _ _ _).from _),⟨rfl,pre,x,rfl,HALL.out,by rw [←HN.out];exact hz,by rw [←HN.out];exact R7.out⟩,B7.out⟩
 case done=>
  rintro D ys W hD hys ⟨⟨hall,hI⟩,hB⟩ hK;obtain rfl:ys=L:=hys
  have hres:apFold (sideOf l r1 r2) (gapE l r1 r2) = (0,0):=by
   rw [←HF.out];exact(apFold_rising HR.out (apIs_none hall)).symm
  have HRes:=LH hres;have R6:Res3 w.heap.size (.int .i64 0) (.int .i64 0) (.int .i64 0) W:=⟨hI.x4,hI.x5,hI.x6⟩;have c4:=bC R6.r4;have c5:=bC R6.r5;have c6:=bC R6.r6;have f4:=bF R6.r4;have f5:=bF R6.r5;have f6:=bF R6.r6;have z4:=lB R6.r4;have z5:=lB R6.r5;have z6:=lB R6.r6;have R7:=LH (R6.put (.int .i64 0) (.int .i64 0) (.int .i64 0));have B7:=LH (Res3.put_below hB (Nat.le_refl _) (.int .i64 0) (.int .i64 0) (.int .i64 0));have KO:KeepsOthers W (((W.setCell ⟨w.heap.size,0,none⟩ (.int .i64 0)).setCell ⟨w.heap.size+1,0,none⟩ (.int .i64 0)).setCell ⟨w.heap.size+1+1,0,none⟩ (.int .i64 0)):=((KeepsOthers.setCell _ _ _).trans (KeepsOthers.setCell _ _ _)).trans (KeepsOthers.setCell _ _ _);have hK':=LH (KO.same D _ hK rfl);have hDw:w.heap.size≤D:=by have:=BB5.out.size;omega
  clear hall hI hB hK R6 hres KO
  gi_wp2_with fail
  generalize ((W.setCell ⟨w.heap.size,0,none⟩ (.int .i64 0)).setCell ⟨w.heap.size+1,0,none⟩ (.int .i64 0)).setCell ⟨w.heap.size+1+1,0,none⟩ (.int .i64 0) =W7 at R7 B7 hK'⊢;refine⟨by simp,.inl ⟨_,_,rfl,run_takeDeferred hK'.out,?_⟩⟩;have R8:=R7.out.grown (grownBy_putObj' _ D (.deferred none)) (fun r e=>by cases e;exact⟨_,hK'.out,rfl⟩);have d4:=bC R8.r4 0;have d5:=bC R8.r5 0;have d6:=bC R8.r6 0;exact⟨.tuple #[.int .i64 0,.int .i64 0,.int .i64 0],by simp [results,Tryz.f15,go_sem,d4,d5,d6],by rw [HRes.out],B7.out.trans (belowK_b (w:=w) (Nat.le_refl _) W7 D _ _ hDw hK'.out rfl rfl)⟩
 case stop=>
  rintro D c pre W hD hpre ⟨⟨rfl,p',x,rfl,hall,hx,hR⟩,hB⟩ hK
  have hres:apFold (sideOf l r1 r2) (gapE l r1 r2) = (x,f x):=by
   rw [←HF.out];obtain⟨suf,hsuf⟩:=hpre;refine(apFold_rising HR.out ?_).symm;rw [←hsuf,List.append_assoc];refine apIs_first ?_ hall hx;have:=HR.out.1;rw [←hsuf,List.append_assoc] at this;exact this
  have hDw:w.heap.size≤D:=by have:=BB5.out.size;omega
  gi_wp2_with fail
  refine⟨by simp,.inl ⟨_,_,rfl,run_takeDeferred hK,?_⟩⟩;have R8:=hR.grown (grownBy_putObj' _ D (.deferred none)) (fun r e=>by cases e;exact⟨_,hK,rfl⟩);have d4:=bC R8.r4 0;have d5:=bC R8.r5 0;have d6:=bC R8.r6 0;exact⟨.tuple #[.int .i64 x,.int .i64 (f x),.int .i64 0],by simp [results,Tryz.f15,go_sem,d4,d5,d6],by rw [hres],hB.trans (belowK_b (w:=w) (Nat.le_refl _) W D _ _ hDw hK rfl rfl)⟩
theorem gap_Apart (w:World) (g1 K1 l1 g2 K2 l2:Nat) (k1 k2:Int) (r1 r2:List Nd) (F1 F2:Nat→Prop) (h1:DigAt w g1 K1 l1 k1 r1 F1) (h2:DigAt w g2 K2 l2 k2 r2 F2) (m1:r1.length≤67108864) (m2:r2.length≤67108864) :
 Calls Tryz.prog 15 #[.pointer (some ⟨g1,0,none⟩),.pointer (some ⟨g2,0,none⟩)] w fun e w'=>e=.returned (.tuple #[.int .i64 (apT l1 l2 r1 r2).1,.int .i64 (apT l1 l2 r1 r2).2,.int .i64 (gapErr l1 l2 r1 r2)])∧Below w.heap.size w w':=by
 by_cases he:gapErr l1 l2 r1 r2=0
 ·have hll:=gapErr_ok he
  obtain rfl:l1=l2:=by omega
  rw [he];exact gap_Apart_yes w g1 K1 l1 g2 K2 k1 k2 r1 r2 F1 F2 h1 h2 m1 m2 he
 ·exact gap_Apart_no w g1 K1 l1 g2 K2 l2 k1 k2 r1 r2 F1 F2 h1 h2 he
end


def SumPost (n:Nat) (m:Nat) (w:World) (e:Ending) (w':World) :Prop:=∃v L,e=.returned v∧Own w' w.heap.size 3 encD v L∧okD L∧valD L=n∧L.length≤m∧Below w.heap.size w w'


def MeanAt (W:World) (p q:Nat) (k l:Int) (A:Option Addr) (n cap:Nat) (x y:Int) :Prop:=
 W.heap[p]? =some (.cells #[.int .i64 k,.int .i64 l,.slice A n cap] 31 (0,0))∧bothAt W q x y

def digBox (W:World) (b:Nat) (k u:Int) (A:Option Addr) (n cap:Nat) :Prop:=W.heap[b]? =some (.cells #[.int .i64 k,.int .i64 u,.slice A n cap] 31 (0,0))
structure AtR (W0:World) (P Q:Nat) (pl ph ql qh:Int) (W:World) :Prop where
 p0:W.cell? ⟨P,0,none⟩ =some (.int .i64 pl)
 p1:W.cell? ⟨P,1,none⟩ =some (.int .i64 ph)
 q0:W.cell? ⟨Q,0,none⟩ =some (.int .i64 ql)
 q1:W.cell? ⟨Q,1,none⟩ =some (.int .i64 qh)
 pz:P<W.heap.size
 qz:Q<W.heap.size
 blw:Below W0.heap.size W0 W
theorem gap_parts (w:World) (x:Int) {L B g:Nat} {lt ft:List Nd} (n d pl ph:Nat) (h:TabAt w L B g n lt ft) (hb:B≤w.heap.size) (m1:lt.length≤67108864) (r1:lt.Pairwise fun a b=>a.1<b.1) (m1':ft.length≤67108864) (r1':ft.Pairwise fun a b=>a.1<b.1)
 (e1:upT lt x=pl) (e2:upT ft x=ph) (hn:1≤n) (hn2:n≤9223372036854775807) (hd:d≤9223372036854775807) (hp:pl≤n) (hq:ph≤n) :
 Calls Tryz.prog 48 #[.pointer (some ⟨g,0,none⟩),.int .i64 x,.int .i64 d] w fun e w'=>e=.returned (.tuple #[.int .i64 (pl*d / n:Nat),.int .i64 (upV ph d n:Nat)])∧Below w.heap.size w w':=by
 have HB1:=LH (fun W (h:TabAt W L B g n lt ft) (hb:B≤W.heap.size)=>table_Both x h hb m1 r1 m1' r1');rw [e1,e2] at HB1;have T1:=LH h;have HP:=LH (reckon_Part · pl d n hd hn hn2 hp);have HU:=LH (reckon_PartUp · ph d n hd hn hn2 hq);have u1:=part_le (b:=d) hp hn;have u2:=up_le (b:=d) hq hn;clear h r1 r1' e1 e2;generalize pl*d / n=u at HP u1⊢;generalize upV ph d n=v at HU u2⊢
 go_enter Tryz.func48,Tryz.ntmps48
 go_wp2_with fail;refine(HB1.out _ T1.out hb).mono ?_;rintro e w1 ⟨rfl,hb1⟩;have s1:=hb1.size;have U1:=LH (T1.out.below (hb1.mono hb));have BB1:=LH hb1;clear hb1;go_wp2_with fail;have BA:Below w1.heap.size w1 (w1.alloc (.cells #[.int .i64 pl,.int .i64 ph] 40)):=(Below.refl _ _).alloc (Nat.le_refl _) _;have P3:Hid (bothAt (w1.alloc (.cells #[.int .i64 pl,.int .i64 ph] 40)) w1.heap.size pl ph):=LH (bothAt.new w1 pl ph);have BB3:=LH (BB1.out.trans (BA.mono s1));have T3:=LH (U1.out.below (BA.mono (by omega)));have s3:=BA.size;have HBw:Hid (B≤(w1.alloc (.cells #[.int .i64 pl,.int .i64 ph] 40)).heap.size):=LH (by omega);clear BA;generalize w1.alloc (.cells #[.int .i64 pl,.int .i64 ph] 40) =W3 at P3 BB3 s3 T3 HBw⊢;have cp:=bC P3.out;have zp:=lB P3.out;refine rX (by kernel_rfl) (by kernel_rfl) ?_
 repeat (go_big_quiet_step (first
  | (go_at_call 122;exact quiet_ext (table_N (T3.out.below ((ext_below _ _).mono HBw.out))))
  | (go_at_call 123;exact quiet_ext (HP.out _))))
 have BX:=BB3.out;refine wpQuiet_nil ?_;intro w4 hb4;replace hb4:=bX hb4;have B4:Below w.heap.size w w4:=Below.then_ bE hb4;have s4:=B4.size;have z4_0:w1.heap.size<w4.heap.size:=by have:=hb4.size;(try simp at this);omega
 have y4_0:w1.heap.size≤w4.heap.size:=Nat.le_of_lt z4_0;have c4_0:=czB hb4 (w1.heap.size);have f4_0:=fzB hb4 (w1.heap.size);have T4:=LH (T3.out.below (hb4.mono HBw.out));have HBw4:Hid (B≤w4.heap.size):=LH (Nat.le_trans HBw.out hb4.size);go_wp2_with fail;refine rX (by kernel_rfl) (by kernel_rfl) ?_
 repeat (go_big_quiet_step (first
  | (go_at_call 122;exact quiet_ext (table_N (T4.out.below ((ext_below _ _).mono HBw4.out))))
  | (go_at_call 36;exact quiet_ext (HU.out _))))
 refine wpQuiet_nil ?_;intro w5 hb5;replace hb5:=bX hb5;have B5:Below w.heap.size w w5:=Below.then_ bE hb5;have s5:=B5.size;go_wp2_with fail
 go_ret2
 exact⟨rfl,B5⟩
section
attribute [local go_sem] Oper.semAt_some
def gapMostErr (l m:Int) (a b:List Nd) (d:Int) :Int:=if gapErr l m a b=0 then (if d<1 then 2 else 0) else gapErr l m a b
def gapMostT (l m:Int) (a b:List Nd) (d:Int) :Int×Int:=if gapMostErr l m a b d=0 then gapFold l d a b (gapE l a b) else (0,0)
theorem SlX.own {w:World} {base n cap z:Nat} {X:Nat→Prop} {A:Option Addr} {es:List Int} (h:Own w base 3 encZ (.slice A n cap) es) (hz:w.heap.size≤z) (hX: ∀b,base≤b→¬X b) :SlX w z X A es:=by
 rcases h with ⟨_,h⟩ | ⟨g,off,cap',cur,hv,hb,hh,h1,h2,h3,hc⟩
 ·exact .inl h
 ·cases hv
  refine .inr ⟨g,off,rfl,by have:=lB hh;omega,hX g hb,fun i x hi=> ?_⟩;rw [bC hh];refine hc i _ ?_;rw [flatZ,List.getElem?_map,hi];rfl
theorem gap_more (w:World) (b:Nat) (lo hi a c:Int) (h:bothAt w b lo hi) :
 Calls Tryz.prog 47 #[.int .i64 a,.int .i64 c,.pointer (some ⟨b,0,none⟩)] w fun e w'=>e=.returned (.tuple #[])∧(w.setCell ⟨b,0,none⟩ (.int .i64 (max lo a))).setCell ⟨b,1,none⟩ (.int .i64 (max hi c)) =w':=by
 have cb:=bC h;have fb:=bF h;have zb:=lB h;clear h
 go_enter Tryz.func47,Tryz.ntmps47
 go_wp2_with fail
 go_end0
 exact⟨rfl,rfl⟩
theorem gap_parts_of {w:World} {L1 B1 g1 l:Nat} {lt1 ft1 r1:List Nd} (x:Int) (d:Nat) (h1:TabAt w L1 B1 g1 (sumR r1) lt1 ft1) (b1:B1≤w.heap.size)
 (t1:Tab (lastL l r1) lt1) (f1:Tab (firstL l r1) ft1) (m1:lt1.length≤67108864) (m1':ft1.length≤67108864) (fit1:Fits l r1) (hn:1≤sumR r1) (hd:d≤9223372036854775807) :
 Calls Tryz.prog 48 #[.pointer (some ⟨g1,0,none⟩),.int .i64 x,.int .i64 d] w fun e w'=>e=.returned (.tuple #[.int .i64 (downV (sumR r1) d (lowOf l r1 x)),.int .i64 (upP (sumR r1) d (highOf l r1 x))])∧Below w.heap.size w w':=by
 have y1:=fit1.sum;have a1:=low_range (l:=l) fit1.roll x;have a2:=high_range' (l:=l) fit1.roll x;obtain⟨n,e1⟩:=Int.eq_ofNat_of_zero_le (show 0≤sumR r1 by omega);obtain⟨pl,e3⟩:=Int.eq_ofNat_of_zero_le a1.1;obtain⟨ph,e4⟩:=Int.eq_ofNat_of_zero_le a2.1;unfold downV upP;rw [e1] at h1;rw [e1,e3,e4];simp only [Int.toNat_natCast];exact gap_parts w x n d pl ph h1 b1 m1 t1.rise m1' f1.rise (by rw [t1.upT,low_up];exact e3) (by rw [f1.upT,high_up];exact e4) (by omega) (by omega) hd (by omega) (by omega)
theorem parts_range {n:Int} {d:Nat} {pl ph:Int} (hn:1≤n) (h1:0≤pl∧pl≤n) (h2:0≤ph∧ph≤n) : (0≤downV n d pl∧downV n d pl≤d)∧(0≤upP n d ph∧upP n d ph≤d):=by
 unfold downV upP;have u1:=part_le (a:=pl.toNat) (b:=(d:Int).toNat) (c:=n.toNat) (by omega) (by omega);have u2:=up_le (a:=ph.toNat) (b:=(d:Int).toNat) (c:=n.toNat) (by omega) (by omega);simp only [Int.toNat_natCast] at u1 u2⊢;generalize pl.toNat*d / n.toNat=u at u1⊢;generalize upV ph.toNat d n.toNat=v at u2⊢;omega
theorem gap_Most_no (w:World) (g1 K1 l1 g2 K2 l2:Nat) (k1 k2:Int) (r1 r2:List Nd) (F1 F2:Nat→Prop) (d:Int) (h1:DigAt w g1 K1 l1 k1 r1 F1) (h2:DigAt w g2 K2 l2 k2 r2 F2) (he:gapMostErr l1 l2 r1 r2 d≠0) :
 Calls Tryz.prog 16 #[.pointer (some ⟨g1,0,none⟩),.pointer (some ⟨g2,0,none⟩),.int .i64 d] w fun e w'=>e=.returned (.tuple #[.agg #[.int .i64 (gapMostT l1 l2 r1 r2 d).1,.int .i64 (gapMostT l1 l2 r1 r2 d).2],.int .i64 (gapMostErr l1 l2 r1 r2 d)])∧Below w.heap.size w w':=by
 have hs:gapMostT l1 l2 r1 r2 d= (0,0):=by unfold gapMostT;rw [if_neg he]
 rw [hs];have HW:=LH (gap_wrong _ g1 K1 l1 g2 K2 l2 k1 k2 r1 r2 F1 F2 ((h1.alloc (.cells #[.int .i64 d] 3)).alloc (.cells #[.int .i64 0,.int .i64 0] 40)) ((h2.alloc (.cells #[.int .i64 d] 3)).alloc (.cells #[.int .i64 0,.int .i64 0] 40)));have kd:=(heap_new_lt (w.alloc (.cells #[.int .i64 d] 3)) (.cells #[.int .i64 0,.int .i64 0] 40) w.heap.size (by simp)).trans (heap_alloc_new w (.cells #[.int .i64 d] 3));have kr:bothAt ((w.alloc (.cells #[.int .i64 d] 3)).alloc (.cells #[.int .i64 0,.int .i64 0] 40)) (w.heap.size+1) 0 0:=heap_new_at (w.alloc (.cells #[.int .i64 d] 3)) (.cells #[.int .i64 0,.int .i64 0] 40) (w.heap.size+1) (by simp);have KD:=LH kd;have KR:=LH kr
 have hcase: (∃er:Int,gapErr l1 l2 r1 r2=er∧¬er=0∧gapMostErr l1 l2 r1 r2 d=er)∨(gapErr l1 l2 r1 r2=0∧d<1∧gapMostErr l1 l2 r1 r2 d=2):=by
  unfold gapMostErr at he⊢;by_cases c1:gapErr l1 l2 r1 r2=0
  ·rw [if_pos c1] at he⊢
   by_cases c2:d<1
   ·exact .inr ⟨c1,c2,by rw [if_pos c2]⟩
   ·rw [if_neg c2] at he;exact absurd rfl he
  ·rw [if_neg c1]
   exact .inl ⟨_,rfl,c1,rfl⟩
 clear hs he h1 h2 kd kr;rcases hcase with ⟨er,f1,f2,f3⟩ | ⟨f1,f2,f3⟩
 ·rw [f1] at HW
  rw [f3];have hne: (er == 0) =false:=by simpa using f2
  have hne2: (er != 0) =true:=by simpa using f2
  clear f1 f3;refine(callsIn_wide (n:=3)).1 ?_;refine callsIn_of_wp_marks Tryz.func16 rfl trivial ?_ rfl;simp only [Tryz.ntmps16,List.size_toArray,List.length_cons,List.length_nil,Nat.reduceAdd,Nat.reduceSub,Array.replicate_succ,Array.replicate_zero,List.push_toArray,List.append_toArray,List.nil_append,List.cons_append]
  gi_wp2_with fail
  refine⟨trivial,?_⟩;refine(callsIn_wide.2 HW.out).mono ?_;rintro e w1 ⟨rfl,hb1⟩;have B1:Below w.heap.size w w1:=Below.then_ bE hb1;have kd1:=bB KD.out hb1;have kr1:=KR.out.below hb1;have c0:=bC kd1;have z0:=lB kd1;have c1:=bC kr1;have z1:=lB kr1;have e1:=bF kr1;have R2:=LH ((kr1.set0 0).set1 0);have B2:=LH ((B1.setCell (p:=⟨w.heap.size+1,0,none⟩) (by simp) (.int .i64 0)).setCell (p:=⟨w.heap.size+1,1,none⟩) (by simp) (.int .i64 0));clear hb1 kd1 kr1
  gi_wp2_with fail
  generalize (w1.setCell ⟨w.heap.size+1,0,none⟩ (.int .i64 0)).setCell ⟨w.heap.size+1,1,none⟩ (.int .i64 0) =W2 at R2 B2⊢;have d0:=bC R2.out 0;have d1:=bC R2.out 1;exact⟨.tuple #[.agg #[.int .i64 0,.int .i64 0],.int .i64 er],by(simp only [results,Tryz.f16];go_simp),rfl,B2.out⟩
 ·rw [f1] at HW
  rw [f3];clear f1 f3;refine(callsIn_wide (n:=3)).1 ?_;refine callsIn_of_wp_marks Tryz.func16 rfl trivial ?_ rfl;simp only [Tryz.ntmps16,List.size_toArray,List.length_cons,List.length_nil,Nat.reduceAdd,Nat.reduceSub,Array.replicate_succ,Array.replicate_zero,List.push_toArray,List.append_toArray,List.nil_append,List.cons_append]
  gi_wp2_with fail
  refine⟨trivial,?_⟩;refine(callsIn_wide.2 HW.out).mono ?_;rintro e w1 ⟨rfl,hb1⟩;have B1:Below w.heap.size w w1:=Below.then_ bE hb1;have kd1:=bB KD.out hb1;have kr1:=KR.out.below hb1;have c0:=bC kd1;have z0:=lB kd1;have c1:=bC kr1;have z1:=lB kr1;have e1:=bF kr1;have R2:=LH ((kr1.set0 0).set1 0);have B2:=LH ((B1.setCell (p:=⟨w.heap.size+1,0,none⟩) (by simp) (.int .i64 0)).setCell (p:=⟨w.heap.size+1,1,none⟩) (by simp) (.int .i64 0));clear hb1 kd1 kr1
  gi_wp2_with fail
  generalize (w1.setCell ⟨w.heap.size+1,0,none⟩ (.int .i64 0)).setCell ⟨w.heap.size+1,1,none⟩ (.int .i64 0) =W2 at R2 B2⊢;have d0:=bC R2.out 0;have d1:=bC R2.out 1;exact⟨.tuple #[.agg #[.int .i64 0,.int .i64 0],.int .i64 2],by(simp only [results,Tryz.f16];go_simp),rfl,B2.out⟩
end
section
variable {l m:Nat} {a b:List Nd}
theorem apT_same (ha:Roll a) (ra:rightOf l a=true) :apT l l a a= (0,0):=by
 unfold apT;by_cases h:gapErr l l a a=0
 ·rw [if_pos h];exact apFold_none fun x _=>sideOf_same ha ra x
 ·rw [if_neg h]
theorem gapMostT_same (ha:Roll a) (ra:rightOf l a=true) (d:Int) : (gapMostT l l a a d).1=0:=by
 unfold gapMostT;by_cases h:gapMostErr l l a a d=0
 ·rw [if_pos h];exact gapFold_same ha ra _
 ·rw [if_neg h]
end
section
attribute [local go_sem] Oper.semAt_some
structure MoI (bw bo bt t1 t2 L1 B1 L2 B2:Nat) (d n m:Int) (lt1 ft1 lt2 ft2:List Nd) (W:World) :Prop where
 d:W.heap[bw]? =some (.cells #[.int .i64 d] 3 (0,0))
 r:bothAt W (bw+1) 0 0
 f:W.heap[bo+1]? =some (.cells #[.func (.func 47) #[] #[.pointer (some ⟨bo,0,none⟩)]] 114 (0,0))
 t:W.heap[bt]? =some (.cells #[.pointer (some ⟨t1,0,none⟩)] 37 (0,0))
 u:W.heap[bt+1]? =some (.cells #[.pointer (some ⟨t2,0,none⟩)] 37 (0,0))
 tab1:TabAt W L1 B1 t1 n lt1 ft1
 tab2:TabAt W L2 B2 t2 m lt2 ft2
section
variable {bw bo bt t1 t2 L1 B1 L2 B2:Nat} {d n m:Int} {lt1 ft1 lt2 ft2:List Nd} {W W':World}
theorem MoI.below (h:MoI bw bo bt t1 t2 L1 B1 L2 B2 d n m lt1 ft1 lt2 ft2 W) (hb:Below W.heap.size W W') (h1:B1≤W.heap.size) (h2:B2≤W.heap.size) :MoI bw bo bt t1 t2 L1 B1 L2 B2 d n m lt1 ft1 lt2 ft2 W':=
 ⟨bB h.d hb,h.r.below hb,bB h.f hb,bB h.t hb,bB h.u hb,h.tab1.below (hb.mono h1),h.tab2.below (hb.mono h2)⟩
theorem MoI.grown {row:Option Nat} (h:MoI bw bo bt t1 t2 L1 B1 L2 B2 d n m lt1 ft1 lt2 ft2 W) (hg:W.grownBy W' row) (hr: ∀r,row=some r→∃o:Obj,W.heap[r]? =some o∧o.isCells=false) :MoI bw bo bt t1 t2 L1 B1 L2 B2 d n m lt1 ft1 lt2 ft2 W':=
 ⟨row_grown h.d hg hr,row_grown h.r hg hr,row_grown h.f hg hr,row_grown h.t hg hr,row_grown h.u hg hr,tab_grown h.tab1 hg hr,tab_grown h.tab2 hg hr⟩
theorem MoI.set (h:MoI bw bo bt t1 t2 L1 B1 L2 B2 d n m lt1 ft1 lt2 ft2 W) {o:Nat} {v:Value} (h0:bw+1<bo) (h1:bo+1<bt) (h2:bo<L1) (h3:bo<L2) :MoI bw bo bt t1 t2 L1 B1 L2 B2 d n m lt1 ft1 lt2 ft2 (W.setCell ⟨bo,o,none⟩ v):=
 ⟨(Below.heap_setCell _ _ _ _ (show bw≠bo by omega)).trans h.d,(Below.heap_setCell _ _ _ _ (show bw+1≠bo by omega)).trans h.r,(Below.heap_setCell _ _ _ _ (show bo+1≠bo by omega)).trans h.f,(Below.heap_setCell _ _ _ _ (show bt≠bo by omega)).trans h.t,(Below.heap_setCell _ _ _ _ (show bt+1≠bo by omega)).trans h.u,h.tab1.set h2 v,h.tab2.set h3 v⟩
end
theorem gap_Most_yes (w:World) (g1 K1 l g2 K2 d:Nat) (k1 k2:Int) (r1 r2:List Nd) (F1 F2:Nat→Prop) (h1:DigAt w g1 K1 l k1 r1 F1) (h2:DigAt w g2 K2 l k2 r2 F2) (m1:r1.length≤67108864) (m2:r2.length≤67108864) (he:gapErr l l r1 r2=0) (hd:1≤d) (hd2:d≤9223372036854775807) :
 Calls Tryz.prog 16 #[.pointer (some ⟨g1,0,none⟩),.pointer (some ⟨g2,0,none⟩),.int .i64 d] w fun e w'=>e=.returned (.tuple #[.agg #[.int .i64 (gapFold l d r1 r2 (gapE l r1 r2)).1,.int .i64 (gapFold l d r1 r2 (gapE l r1 r2)).2],.int .i64 0])∧Below w.heap.size w w':=by
 have hsum:sumR r1≠0∧sumR r2≠0:=by
  unfold gapErr at he;rw [if_neg (not_not_intro rfl)] at he;by_cases c:sumR r1=0∨sumR r2=0
  ·rw [if_pos c] at he;cases he
  ·exact⟨fun h=>c (.inl h),fun h=>c (.inr h)⟩
 have D1:=LH ((h1.alloc (.cells #[.int .i64 d] 3)).alloc (.cells #[.int .i64 0,.int .i64 0] 40));have D2:=LH ((h2.alloc (.cells #[.int .i64 d] 3)).alloc (.cells #[.int .i64 0,.int .i64 0] 40));have HW:=LH (gap_wrong _ g1 K1 l g2 K2 l k1 k2 r1 r2 F1 F2 D1.out D2.out);rw [he] at HW;have kd:=(heap_new_lt (w.alloc (.cells #[.int .i64 d] 3)) (.cells #[.int .i64 0,.int .i64 0] 40) w.heap.size (by simp)).trans (heap_alloc_new w (.cells #[.int .i64 d] 3));have kr:bothAt ((w.alloc (.cells #[.int .i64 d] 3)).alloc (.cells #[.int .i64 0,.int .i64 0] 40)) (w.heap.size+1) 0 0:=heap_new_at (w.alloc (.cells #[.int .i64 d] 3)) (.cells #[.int .i64 0,.int .i64 0] 40) (w.heap.size+1) (by simp);have KD:=LH kd;have KR:=LH kr;have fit1:=h1.fits;have fit2:=h2.fits;have n1:=sumR_nonneg fit1.roll;have n2:=sumR_nonneg fit2.roll;have SUM:Hid (1≤sumR r1∧1≤sumR r2):=LH ⟨by omega,by omega⟩;have FIT:=LH (And.intro fit1 fit2);have HGE:=LH (gapE_len l r1 r2);have hd1:decide ((d:Int) <1) =false:=by simp;omega
 clear he h1 h2 fit1 fit2 kd kr hsum n1 n2;refine(callsIn_wide (n:=3)).1 ?_;refine callsIn_of_wp_marks Tryz.func16 rfl trivial ?_ rfl;simp only [Tryz.ntmps16,List.size_toArray,List.length_cons,List.length_nil,Nat.reduceAdd,Nat.reduceSub,Array.replicate_succ,Array.replicate_zero,List.push_toArray,List.append_toArray,List.nil_append,List.cons_append]
 gi_wp2_with fail
 refine⟨trivial,?_⟩;refine(callsIn_wide.2 HW.out).mono ?_;rintro e w1 ⟨rfl,hb1⟩;have B1:Below w.heap.size w w1:=Below.then_ bE hb1;have kd1:=bB KD.out hb1;have c0:=bC kd1;have z0:=lB kd1;have KD1:=LH kd1;have KR1:=LH (KR.out.below hb1);have E1:=LH (D1.out.below hb1);have E2:=LH (D2.out.below hb1);have s1:w.heap.size+2≤w1.heap.size:=by have:=hb1.size;simp at this;omega
 clear hb1 HW D1 D2 KD KR kd1
 gi_wp2_with fail
 have BA:Below w1.heap.size w1 ((w1.alloc (.cells #[.int .i64 0,.int .i64 0] 40)).alloc (.cells #[.func (.func 47) #[] #[.pointer (some ⟨w1.heap.size,0,none⟩)]] 114)):=((Below.refl w1.heap.size w1).alloc (Nat.le_refl _) _).alloc (by simp) _;have ko:bothAt ((w1.alloc (.cells #[.int .i64 0,.int .i64 0] 40)).alloc (.cells #[.func (.func 47) #[] #[.pointer (some ⟨w1.heap.size,0,none⟩)]] 114)) w1.heap.size 0 0:=(heap_new_lt (w1.alloc (.cells #[.int .i64 0,.int .i64 0] 40)) (.cells #[.func (.func 47) #[] #[.pointer (some ⟨w1.heap.size,0,none⟩)]] 114) w1.heap.size (by simp)).trans (heap_alloc_new w1 (.cells #[.int .i64 0,.int .i64 0] 40));have kf:=heap_new_at (w1.alloc (.cells #[.int .i64 0,.int .i64 0] 40)) (.cells #[.func (.func 47) #[] #[.pointer (some ⟨w1.heap.size,0,none⟩)]] 114) (w1.heap.size+1) (by simp);have KO:=LH ko;have KF:=LH kf;have KD2:=LH (bB KD1.out BA);have KR2:=LH (KR1.out.below BA);have G1:=LH (E1.out.below BA);have G2:=LH (E2.out.below BA);have BV:=LH (B1.trans (BA.mono B1.size));have sV:w1.heap.size+2≤((w1.alloc (.cells #[.int .i64 0,.int .i64 0] 40)).alloc (.cells #[.func (.func 47) #[] #[.pointer (some ⟨w1.heap.size,0,none⟩)]] 114)).heap.size:=by simp
 clear BA ko kf KD1 KR1 E1 E2 c0 z0;generalize (w1.alloc (.cells #[.int .i64 0,.int .i64 0] 40)).alloc (.cells #[.func (.func 47) #[] #[.pointer (some ⟨w1.heap.size,0,none⟩)]] 114) =V1 at KO KF KD2 KR2 G1 G2 BV sV⊢;refine⟨trivial,?_⟩;refine(callsIn_wide.2 (rank_Of _ g1 K1 l k1 r1 F1 G1.out m1)).mono ?_;rintro e w2 ⟨t1,lt1,ft1,rfl,htab1,htl1,htf1,hl1,hl1',hb2⟩;have B2:=LH (BV.out.trans (hb2.mono BV.out.size));have T1:=LH htab1;have HT1:=LH (And.intro htl1 (And.intro htf1 (And.intro hl1 hl1')));have s2:=hb2.size;have HB2:=LH hb2;clear hb2 htab1 htl1 htf1 hl1 hl1'
 gi_wp2_with fail
 refine⟨trivial,?_⟩;refine(callsIn_wide.2 (rank_Of _ g2 K2 l k2 r2 F2 (G2.out.below HB2.out) m2)).mono ?_;rintro e w3 ⟨t2,lt2,ft2,rfl,htab2,htl2,htf2,hl2,hl2',hb3⟩;have B3:=B2.out.trans (hb3.mono B2.out.size);have s3:=hb3.size;have BB3:=HB2.out.trans (hb3.mono s2);have KO3:=LH (KO.out.below BB3);have KF3:=LH (bB KF.out BB3);have KD3:=LH (bB KD2.out BB3);have KR3:=LH (KR2.out.below BB3);have J1:=LH (G1.out.below BB3);have J2:=LH (G2.out.below BB3);have U1:=LH (T1.out.below hb3);have U2:=LH htab2;have HT2:=LH (And.intro htl2 (And.intro htf2 (And.intro hl2 hl2')));clear hb3 htab2 htl2 htf2 hl2 hl2' G1 G2 T1 KO KF KD2 KR2 BB3 HB2 B2 BV B1
 gi_wp2_with fail
 have BA:Below w3.heap.size w3 (((w3.alloc (.cells #[.pointer (some ⟨t1,0,none⟩)] 37)).alloc (.cells #[.pointer (some ⟨t2,0,none⟩)] 37)).alloc (.cells #[.pointer (some ⟨g1,0,none⟩),.pointer (some ⟨g2,0,none⟩)] 27)):=((((Below.refl w3.heap.size w3).alloc (Nat.le_refl _) _).alloc (by simp) _).alloc (by simp;omega) _);have kt:=(heap_new_lt ((w3.alloc (.cells #[.pointer (some ⟨t1,0,none⟩)] 37)).alloc (.cells #[.pointer (some ⟨t2,0,none⟩)] 37)) (.cells #[.pointer (some ⟨g1,0,none⟩),.pointer (some ⟨g2,0,none⟩)] 27) w3.heap.size (by simp;omega)).trans ((heap_new_lt (w3.alloc (.cells #[.pointer (some ⟨t1,0,none⟩)] 37)) (.cells #[.pointer (some ⟨t2,0,none⟩)] 37) w3.heap.size (by simp)).trans (heap_alloc_new w3 (.cells #[.pointer (some ⟨t1,0,none⟩)] 37)));have ku:=(heap_new_lt ((w3.alloc (.cells #[.pointer (some ⟨t1,0,none⟩)] 37)).alloc (.cells #[.pointer (some ⟨t2,0,none⟩)] 37)) (.cells #[.pointer (some ⟨g1,0,none⟩),.pointer (some ⟨g2,0,none⟩)] 27) (w3.heap.size+1) (by simp)).trans (heap_new_at (w3.alloc (.cells #[.pointer (some ⟨t1,0,none⟩)] 37)) (.cells #[.pointer (some ⟨t2,0,none⟩)] 37) (w3.heap.size+1) (by simp));have ks:=heap_new_at ((w3.alloc (.cells #[.pointer (some ⟨t1,0,none⟩)] 37)).alloc (.cells #[.pointer (some ⟨t2,0,none⟩)] 37)) (.cells #[.pointer (some ⟨g1,0,none⟩),.pointer (some ⟨g2,0,none⟩)] 27) (w3.heap.size+1+1) (by simp)
 have I4:MoI w.heap.size w1.heap.size w3.heap.size t1 t2 V1.heap.size w2.heap.size w2.heap.size w3.heap.size d (sumR r1) (sumR r2) lt1 ft1 lt2 ft2 (((w3.alloc (.cells #[.pointer (some ⟨t1,0,none⟩)] 37)).alloc (.cells #[.pointer (some ⟨t2,0,none⟩)] 37)).alloc (.cells #[.pointer (some ⟨g1,0,none⟩),.pointer (some ⟨g2,0,none⟩)] 27)):=
  ⟨bB KD3.out BA,KR3.out.below BA,bB KF3.out BA,kt,ku,U1.out.below (BA.mono s3),U2.out.below BA⟩
 have II:=LH I4;have OO:=LH (KO3.out.below BA);have KS:=LH ks;have M1:=LH (J1.out.below BA);have M2:=LH (J2.out.below BA);have BB:=LH (B3.trans (BA.mono B3.size));have sA:=BA.size;have sA3:w3.heap.size+3≤(((w3.alloc (.cells #[.pointer (some ⟨t1,0,none⟩)] 37)).alloc (.cells #[.pointer (some ⟨t2,0,none⟩)] 37)).alloc (.cells #[.pointer (some ⟨g1,0,none⟩),.pointer (some ⟨g2,0,none⟩)] 27)).heap.size:=by simp
 clear BA kt ku ks I4 J1 J2 U1 U2 KO3 KF3 KD3 KR3 B3;generalize ((w3.alloc (.cells #[.pointer (some ⟨t1,0,none⟩)] 37)).alloc (.cells #[.pointer (some ⟨t2,0,none⟩)] 37)).alloc (.cells #[.pointer (some ⟨g1,0,none⟩),.pointer (some ⟨g2,0,none⟩)] 27) =W4 at II OO KS M1 M2 BB sA sA3⊢;refine⟨trivial,?_⟩;refine(callsIn_wide.2 (gap_ends _ (w3.heap.size+1+1) g1 g2 K1 K2 l k1 k2 r1 r2 F1 F2 KS.out M1.out M2.out m1 m2)).mono ?_;rintro e w5 ⟨b,A,cap,L,rfl,hb0,kb,ho,hrise,hle,hb5⟩;have I5:=LH (II.out.below hb5 (by omega) (by omega));have O5:=LH (OO.out.below hb5);have BB5:=LH (BB.out.trans (hb5.mono BB.out.size));have KB:=LH kb;have zb:=lB kb;have SX:=LH (SlX.own (z:=w5.heap.size) (X:=fun b=>b=w1.heap.size) ho (Nat.le_refl _) (fun c hc=>by omega));have HR:=LH hrise;have hL:L.length≤1000000000000:=by rw [HGE.out] at hle;omega
 have s5:=hb5.size;clear kb ho hrise hle hb5 II OO KS M1 M2 BB
 gi_wp2_with fail
 have hKB:=LH (fun (W:World) (q:Nat) (o o':Obj) (h:W.heap[q]? =some o) (hc:o.isCells=false)=>keepX_b (z:=w5.heap.size) (X:=fun b=>b=w1.heap.size) W q o o' h hc)
 have HP1:Hid (∀(x:Int) (W:World),MoI w.heap.size w1.heap.size w3.heap.size t1 t2 V1.heap.size w2.heap.size w2.heap.size w3.heap.size d (sumR r1) (sumR r2) lt1 ft1 lt2 ft2 W→Calls Tryz.prog 48 #[.pointer (some ⟨t1,0,none⟩),.int .i64 x,.int .i64 d] W fun e w'=>e=.returned (.tuple #[.int .i64 (downV (sumR r1) d (lowOf l r1 x)),.int .i64 (upP (sumR r1) d (highOf l r1 x))])∧Below W.heap.size W w'):=LH fun x W h=>by
  have hz:=lB h.t;obtain⟨q1,q2,q3,q4⟩:=HT1.out;exact gap_parts_of x d h.tab1 (by omega) q1 q2 (by omega) (by omega) FIT.out.1 SUM.out.1 hd2
 have HP2:Hid (∀(x:Int) (W:World),MoI w.heap.size w1.heap.size w3.heap.size t1 t2 V1.heap.size w2.heap.size w2.heap.size w3.heap.size d (sumR r1) (sumR r2) lt1 ft1 lt2 ft2 W→Calls Tryz.prog 48 #[.pointer (some ⟨t2,0,none⟩),.int .i64 x,.int .i64 d] W fun e w'=>e=.returned (.tuple #[.int .i64 (downV (sumR r2) d (lowOf l r2 x)),.int .i64 (upP (sumR r2) d (highOf l r2 x))])∧Below W.heap.size W w'):=LH fun x W h=>by
  have hz:=lB h.t;obtain⟨q1,q2,q3,q4⟩:=HT2.out;exact gap_parts_of x d h.tab2 (by omega) q1 q2 (by omega) (by omega) FIT.out.2 SUM.out.2 hd2
 have HPR:=LH (fun x=>And.intro (parts_range (d:=d) SUM.out.1 (low_range (l:=l) FIT.out.1.roll x) (high_range' (l:=l) FIT.out.1.roll x)) (parts_range (d:=d) SUM.out.2 (low_range (l:=l) FIT.out.2.roll x) (high_range' (l:=l) FIT.out.2.roll x)));clear HT1 HT2 FIT HGE SUM
 refine wpIn_rangeFunc_ownG rfl (by decide) (gf:=120) (lb:= #[.pointer (some ⟨b,0,none⟩)]) rfl trivial (enters_of Tryz.func120 (by kernel_rfl) rfl)
  (ends_stops (3 - 1) b w5.heap.size (fun b=>b=w1.heap.size) A cap L w5 (by decide) (Nat.le_refl _) KB.out SX.out zb (fun h=>by omega) hL)
  keepX_t (fun W q o o' _ h hc _=>hKB.out W q o o' h hc) (Below.refl _ _) (fun _=>rfl)
  (fun pre W=>(MoI w.heap.size w1.heap.size w3.heap.size t1 t2 V1.heap.size w2.heap.size w2.heap.size w3.heap.size d (sumR r1) (sumR r2) lt1 ft1 lt2 ft2 W∧bothAt W w1.heap.size (gapFold l d r1 r2 pre).1 (gapFold l d r1 r2 pre).2)∧Below w.heap.size w W)
  (fun _ _ _=>False)
  (OwnFrom.and (Go.Own.from (fun s A B row hs hg hr=>⟨hs.1.grown hg hr,row_grown hs.2 hg hr⟩) _) (ownFrom_below (Nat.le_refl _) (by have:=BB5.out.size;omega)))
  (fun c=>fun _ _ _ _ hs _ _=>hs)
  ⟨⟨I5.out,O5.out⟩,BB5.out⟩
  (fun x=>{tmps:= #[.pointer (some ⟨g1,0,none⟩),.pointer (some ⟨g2,0,none⟩),.int .i64 d,undef,undef,.pointer (some ⟨w.heap.size,0,none⟩),.pointer (some ⟨w.heap.size+1,0,none⟩),.int .i64 0,.int .i64 0,.pointer (some ⟨w1.heap.size,0,none⟩),.pointer (some ⟨w1.heap.size+1,0,none⟩),.pointer (some ⟨w3.heap.size,0,none⟩),.pointer (some ⟨w3.heap.size+1,0,none⟩),.int .i64 x,undef,undef,undef,undef,.pointer (some ⟨g1,0,none⟩),.pointer (some ⟨g2,0,none⟩),.int .i64 0,.int .i64 0,.bool true,.bool true,.int .i64 d,.bool false,.bool false,.int .i64 0,.bool false,undef,undef,.func (.func 47) #[] #[.pointer (some ⟨w1.heap.size,0,none⟩)],.pointer (some ⟨g1,0,none⟩),.pointer (some ⟨t1,0,none⟩),.pointer (some ⟨g2,0,none⟩),.pointer (some ⟨t2,0,none⟩),.pointer (some ⟨g1,0,none⟩),.pointer (some ⟨g2,0,none⟩),.slice (some ⟨w3.heap.size+1+1,0,none⟩) 2 2,.func (.func 120) #[] #[.pointer (some ⟨b,0,none⟩)],.int .i64 x,undef,undef,undef,undef,undef,undef,undef,undef,undef,undef,undef,undef,undef,undef,undef,undef,undef,undef,undef,undef,undef,undef,undef,undef,undef,undef,undef,undef,undef,undef,undef],defers:= []}) ?assign ?body ?done ?stop
 case assign=>
  intro q x W Kc hK
  gi_wp2
  exact hK
 case body=>
  rintro q pre x W ⟨⟨hI,hO⟩,hB⟩ _;have HI:=LH hI;have HO:=LH hO;have HB:=LH hB;have ct:=bC hI.t;have cd:=bC hI.d;have zt:=lB hI.t;have zd:=lB hI.d;have h1:=LH (HP1.out x);have h2:=LH (HP2.out x);have hsn:=gapFold_snoc l d r1 r2 pre x;have hst: ∀o:Int×Int,gapStep l d r1 r2 o x= (max (max o.1 (downV (sumR r1) d (lowOf l r1 x) - upP (sumR r2) d (highOf l r2 x))) (downV (sumR r2) d (lowOf l r2 x) - upP (sumR r1) d (highOf l r1 x)),max (max o.2 (upP (sumR r1) d (highOf l r1 x) - downV (sumR r2) d (lowOf l r2 x))) (upP (sumR r2) d (highOf l r2 x) - downV (sumR r1) d (lowOf l r1 x))):=fun o=>rfl;rw [hst] at hsn;have hpr:=HPR.out x;generalize downV (sumR r1) d (lowOf l r1 x) =p at h1 hsn hpr;generalize upP (sumR r1) d (highOf l r1 x) =u at h1 hsn hpr;generalize downV (sumR r2) d (lowOf l r2 x) =r at h2 hsn hpr;generalize upP (sumR r2) d (highOf l r2 x) =s at h2 hsn hpr;have HSN:=LH hsn;generalize gapFold l d r1 r2 pre=o at HSN HO;obtain⟨lo,hi⟩:=o;simp only at HSN HO;clear hI hO hB hsn hst HP1 HP2 HPR
  gi_wp2_with fail
  refine⟨trivial,?_⟩;refine(CallsIn.inRound q (callsIn_wide.2 (h1.out _ HI.out))).mono ?_;rintro e w6 ⟨rfl,hb6⟩;have KF6:=LH ((KeepsOthers.of_grownBy (grownBy_of_below hb6 none) (fun _ _ h=>by cases h)).from w5.heap.size);have KK6:=LH (KeepX.of_below (z:=w5.heap.size) (X:=fun b=>b=w1.heap.size) hb6);have I6:=LH (HI.out.below hb6 (by omega) (by omega));have O6:=LH (HO.out.below hb6);have B6:=LH (HB.out.trans (hb6.mono HB.out.size));have s6:=hb6.size;have cu6:=bC I6.out.u;have cd6:=bC I6.out.d;have zu6:=lB I6.out.u;have zd6:=lB I6.out.d;clear hb6 HI HO HB ct cd
  gi_wp2_with fail
  refine⟨trivial,?_⟩;refine(CallsIn.inRound q (callsIn_wide.2 (h2.out _ I6.out))).mono ?_;rintro e w7 ⟨rfl,hb7⟩;have KF7:=LH (KF6.out.trans ((KeepsOthers.of_grownBy (grownBy_of_below hb7 none) (fun _ _ h=>by cases h)).from w5.heap.size));have KK7:=LH (keepX_t KK6.out (KeepX.of_below (z:=w5.heap.size) (X:=fun b=>b=w1.heap.size) hb7));have I7:=LH (I6.out.below hb7 (by omega) (by omega));have O7:=LH (O6.out.below hb7);have B7:=LH (B6.out.trans (hb7.mono B6.out.size));have cf7:=bC I7.out.f;have zf7:=lB I7.out.f;clear hb7 I6 O6 B6 KF6 KK6 cu6 cd6
  gi_wp2_with fail
  refine⟨trivial,?_⟩;refine(CallsIn.inRound q (callsIn_wide.2 (gap_more w7 w1.heap.size lo hi (p - s) (u - r) O7.out))).mono ?_;rintro e w8 ⟨rfl,hw8⟩;have i8:=(I7.out.set (o:=0) (v:=.int .i64 (max lo (p - s))) (by omega) (by omega) (by omega) (by omega)).set (o:=1) (v:=.int .i64 (max hi (u - r))) (by omega) (by omega) (by omega) (by omega);have o8:=(O7.out.set0 (max lo (p - s))).set1 (max hi (u - r));have b8:=(B7.out.setCell (p:=⟨w1.heap.size,0,none⟩) (by simp only;omega) (.int .i64 (max lo (p - s)))).setCell (p:=⟨w1.heap.size,1,none⟩) (by simp only;omega) (.int .i64 (max hi (u - r)));have kf8:=(KF7.out.trans ((KeepsOthers.setCell w7 ⟨w1.heap.size,0,none⟩ (.int .i64 (max lo (p - s)))).from w5.heap.size)).trans ((KeepsOthers.setCell _ ⟨w1.heap.size,1,none⟩ (.int .i64 (max hi (u - r)))).from w5.heap.size);have kk8:=(KK7.out.set (p:=⟨w1.heap.size,0,none⟩) (.inl rfl) (.int .i64 (max lo (p - s)))).set (p:=⟨w1.heap.size,1,none⟩) (.inl rfl) (.int .i64 (max hi (u - r)));rw [hw8] at i8 o8 b8 kf8 kk8;have I8:=LH i8;have O8:=LH o8;have B8:=LH b8;have KF8:=LH kf8;have KK8:=LH kk8;have cf8:=bC I8.out.f;have zf8:=lB I8.out.f;clear hw8 i8 o8 b8 kf8 kk8 I7 O7 B7 KF7 KK7 cf7 zf7
  gi_wp2_with fail
  refine⟨trivial,?_⟩;refine(CallsIn.inRound q (callsIn_wide.2 (gap_more w8 w1.heap.size (max lo (p - s)) (max hi (u - r)) (r - u) (s - p) O8.out))).mono ?_;rintro e w9 ⟨rfl,hw9⟩;have i9:=(I8.out.set (o:=0) (v:=.int .i64 (max (max lo (p - s)) (r - u))) (by omega) (by omega) (by omega) (by omega)).set (o:=1) (v:=.int .i64 (max (max hi (u - r)) (s - p))) (by omega) (by omega) (by omega) (by omega);have o9:=(O8.out.set0 (max (max lo (p - s)) (r - u))).set1 (max (max hi (u - r)) (s - p));have b9:=(B8.out.setCell (p:=⟨w1.heap.size,0,none⟩) (by simp only;omega) (.int .i64 (max (max lo (p - s)) (r - u)))).setCell (p:=⟨w1.heap.size,1,none⟩) (by simp only;omega) (.int .i64 (max (max hi (u - r)) (s - p)));have kf9:=(KF8.out.trans ((KeepsOthers.setCell w8 ⟨w1.heap.size,0,none⟩ (.int .i64 (max (max lo (p - s)) (r - u)))).from w5.heap.size)).trans ((KeepsOthers.setCell _ ⟨w1.heap.size,1,none⟩ (.int .i64 (max (max hi (u - r)) (s - p)))).from w5.heap.size);have kk9:=(KK8.out.set (p:=⟨w1.heap.size,0,none⟩) (.inl rfl) (.int .i64 (max (max lo (p - s)) (r - u)))).set (p:=⟨w1.heap.size,1,none⟩) (.inl rfl) (.int .i64 (max (max hi (u - r)) (s - p)));rw [hw9] at i9 o9 b9 kf9 kk9;have I9:=LH i9;have O9:=LH o9;have B9:=LH b9;have KF9:=LH kf9;have KK9:=LH kk9;have cf9:=bC I9.out.f;have zf9:=lB I9.out.f;clear hw9 i9 o9 b9 kf9 kk9 I8 O8 B8 KF8 KK8 cf8 zf8
  gi_wp2_with fail
  exact⟨KF9.out,KK9.out,⟨I9.out,by rw [HSN.out];exact O9.out⟩,B9.out⟩
 case done=>
  rintro D ys W hD hys ⟨⟨hI,hO⟩,hB⟩ hK;obtain rfl:ys=L:=hys;have hres:gapFold l d r1 r2 ys=gapFold l d r1 r2 (gapE l r1 r2):=gapFold_rising HR.out;rw [hres] at hO;obtain⟨o,ho⟩ : ∃o,o=gapFold l d r1 r2 (gapE l r1 r2):=⟨_,rfl⟩;rw [←ho] at hO;have HOE:=LH ho;have co:=bC hO;have zo:=lB hO;have cr:=bC hI.r;have fr:=bF hI.r;have zr:=lB hI.r;have R7:=LH ((hI.r.set0 o.1).set1 o.2);have B7:=LH ((hB.setCell (p:=⟨w.heap.size+1,0,none⟩) (by simp) (.int .i64 o.1)).setCell (p:=⟨w.heap.size+1,1,none⟩) (by simp) (.int .i64 o.2));have KO:KeepsOthers W ((W.setCell ⟨w.heap.size+1,0,none⟩ (.int .i64 o.1)).setCell ⟨w.heap.size+1,1,none⟩ (.int .i64 o.2)):=(KeepsOthers.setCell _ _ _).trans (KeepsOthers.setCell _ _ _);have hK':=LH (KO.same D _ hK rfl);have hDw:w.heap.size≤D:=by have:=BB5.out.size;omega
  clear hI hO hB hK KO hres ho
  gi_wp2_with fail
  generalize (W.setCell ⟨w.heap.size+1,0,none⟩ (.int .i64 o.1)).setCell ⟨w.heap.size+1,1,none⟩ (.int .i64 o.2) =W7 at R7 B7 hK'⊢;refine⟨by simp,.inl ⟨_,_,rfl,run_takeDeferred hK'.out,?_⟩⟩;have R8:bothAt (W7.putObj D (.deferred none)) (w.heap.size+1) o.1 o.2:=row_grown R7.out (grownBy_putObj' _ D (.deferred none)) (fun r e=>by cases e;exact⟨_,hK'.out,rfl⟩);have d0:=bC R8 0;have d1:=bC R8 1;exact⟨.tuple #[.agg #[.int .i64 o.1,.int .i64 o.2],.int .i64 0],by(simp only [results,Tryz.f16];go_simp),by rw [HOE.out],B7.out.trans (belowK_b (w:=w) (Nat.le_refl _) W7 D _ _ hDw hK'.out rfl rfl)⟩
 case stop=>
  rintro D c pre W hD hpre h hK;exact h.elim
theorem gap_Most (w:World) (g1 K1 l1 g2 K2 l2:Nat) (k1 k2:Int) (r1 r2:List Nd) (F1 F2:Nat→Prop) (d:Int) (h1:DigAt w g1 K1 l1 k1 r1 F1) (h2:DigAt w g2 K2 l2 k2 r2 F2) (m1:r1.length≤67108864) (m2:r2.length≤67108864) (hd:d≤9223372036854775807) :
 Calls Tryz.prog 16 #[.pointer (some ⟨g1,0,none⟩),.pointer (some ⟨g2,0,none⟩),.int .i64 d] w fun e w'=>e=.returned (.tuple #[.agg #[.int .i64 (gapMostT l1 l2 r1 r2 d).1,.int .i64 (gapMostT l1 l2 r1 r2 d).2],.int .i64 (gapMostErr l1 l2 r1 r2 d)])∧Below w.heap.size w w':=by
 by_cases he:gapMostErr l1 l2 r1 r2 d=0
 ·have h0:gapErr l1 l2 r1 r2=0∧¬d<1:=by
   unfold gapMostErr at he;by_cases c:gapErr l1 l2 r1 r2=0
   ·rw [if_pos c] at he
    by_cases c2:d<1
    ·rw [if_pos c2] at he;cases he
    ·exact⟨c,c2⟩
   ·rw [if_neg c] at he;exact absurd he c
  have hll:=gapErr_ok h0.1;obtain rfl:l1=l2:=by omega
  obtain⟨n,rfl⟩:=Int.eq_ofNat_of_zero_le (show 0≤d by omega);have ht:gapMostT l1 l1 r1 r2 n=gapFold l1 n r1 r2 (gapE l1 r1 r2):=by unfold gapMostT;rw [if_pos he]
  rw [ht,he];exact gap_Most_yes w g1 K1 l1 g2 K2 n k1 k2 r1 r2 F1 F2 h1 h2 m1 m2 h0.1 (by omega) (by omega)
 ·exact gap_Most_no w g1 K1 l1 g2 K2 l2 k1 k2 r1 r2 F1 F2 d h1 h2 he
end


theorem reckon_Mul (w:World) (a b:Nat) (ha:a≤9223372036854775807) (hb:b≤9223372036854775807) (hab:a*b≤9223372036854775807) :Calls Tryz.prog 54 #[.int .i64 a,.int .i64 b] w fun e w'=>e=.returned (.tuple #[.int .i64 (a*b:Nat),.bool true])∧Below w.heap.size w w':=by
 have HC:=LH (show decide (0≤(a:Int)∧0≤(b:Int)) =true by simp);have e1:a*b / 18446744073709551616=0:=by omega
 have e2:a*b % 18446744073709551616=a*b:=by omega
 have HM:Hid (∀W,Calls Tryz.prog 125 #[.int .u64 a,.int .u64 b] W fun e w'=>e=.returned (.tuple #[.int .u64 0,.int .u64 (a*b:Nat)])∧w'=W):=LH fun W=>by
  have:=Tryz.bits_Mul64 a b (by omega) (by omega) W;rw [e1,e2] at this;exact this
 have HK:=LH (reckon_count · (a*b) hab);clear e1 e2;generalize a*b=p at hab HM HK⊢
 go_enter Tryz.func54,Tryz.ntmps54
 go_wp2_with fail;refine(reckon_counts _ a b).mono ?_;rintro e w1 ⟨rfl,hb1⟩;have B1:Below w.heap.size w w1:=Below.then_ bE hb1;have s1:=B1.size;rw [HC.out];go_wp2_with fail;refine(HM.out _).mono ?_;rintro e w2 ⟨rfl,rfl⟩;go_wp2_with fail;refine(HK.out _).mono ?_;rintro e w3 ⟨rfl,hb3⟩;have B3:Below w.heap.size w w3:=Below.then_ bE hb3;have s3:=B3.size;go_wp2_with fail
 go_ret2
 exact⟨rfl,bE⟩
theorem digest_Cap (w:World) (g K l:Nat) (k:Int) (r:List Nd) (F:Nat→Prop) (h:DigAt w g K l k r F) :Calls Tryz.prog 55 #[.pointer (some ⟨g,0,none⟩)] w fun e w'=>e=.returned (.int .i64 (sumR r / k))∧Below w.heap.size w w':=by
 have hs0:=sumR_nonneg h.fits.roll;have hs1:=h.fits.sum;obtain⟨h1,h2,p,F0,rfl,hh,hP⟩:=h;have c:=bC hh;have z:=lB hh;have HP:=LH hP;clear hh hP
 go_enter Tryz.func55,Tryz.ntmps55
 go_wp2_with fail;refine rX (by kernel_rfl) (by kernel_rfl) ?_
 repeat (go_big_quiet_step (first| (go_at_call 25;exact quiet_ext (pool_Total _ p K l r F0 (HP.out.below (ext_below _ _)))) | (go_at_call 126;exact quiet_ext (fold_Cap _ (sumR r) k hs0 (by omega) h1 (by omega)))))
 refine wpQuiet_nil ?_;intro w1 hb1;replace hb1:=bX hb1;have B1:Below w.heap.size w w1:=Below.then_ bE hb1;have s1:=B1.size;go_wp2_with fail;go_ret;exact⟨rfl,bE⟩
theorem rank_Slack (w:World) (g K l:Nat) (k:Int) (r:List Nd) (F:Nat→Prop) (h:DigAt w g K l k r F) :Calls Tryz.prog 18 #[.pointer (some ⟨g,0,none⟩)] w fun e w'=>e=.returned (.int .i64 ((l:Int) * (sumR r / k)))∧Below w.heap.size w w':=by
 have hs0:=sumR_nonneg h.fits.roll;have hs1:=h.fits.sum;have hl:=h.l_le;have hk:=h.1;obtain⟨c,hc⟩:=Int.eq_ofNat_of_zero_le (Int.ediv_nonneg hs0 (show 0≤k by omega));have hc2:c≤72057594037927935:=by have:=Int.ediv_le_self k hs0;omega
 have hm:l*c≤48*72057594037927935:=Nat.mul_le_mul hl.2 hc2;have HM:=LH (reckon_Mul · l c (by omega) (by omega) (by omega));have HC:=LH hc;have HD:=LH h;rw [hc];clear hc h
 go_enter Tryz.func18,Tryz.ntmps18
 go_wp2_with fail;refine(digest_Conf _ g K l k r F HD.out).mono ?_;rintro e w1 ⟨rfl,hb1⟩;have B1:Below w.heap.size w w1:=Below.then_ bE hb1;have s1:=B1.size;go_wp2_with fail;refine(digest_Cap _ g K l k r F (HD.out.below B1)).mono ?_;rintro e w2 ⟨rfl,hb2⟩;have B2:Below w.heap.size w w2:=Below.then_ bE hb2;have s2:=B2.size;rw [HC.out];go_wp2_with fail;refine(HM.out _).mono ?_;rintro e w3 ⟨rfl,hb3⟩;have B3:Below w.heap.size w w3:=Below.then_ bE hb3;have s3:=B3.size;go_wp2_with fail;go_ret;exact⟨ret_int (by push_cast;rfl),bE⟩
structure TopS (w:World) (g K l:Nat) (k:Int) (r:List Nd) (F:Nat→Prop) (tg Lw Bw:Nat) (lt ft:List Nd) (W:World) :Prop where
 d:DigAt W g K l k r F
 t:TabAt W Lw Bw tg (sumR r) lt ft
 b:Below w.heap.size w W
 z:Bw≤W.heap.size
theorem TopS.below {w:World} {g K l:Nat} {k:Int} {r:List Nd} {F:Nat→Prop} {tg Lw Bw:Nat} {lt ft:List Nd} {W W':World} (h:TopS w g K l k r F tg Lw Bw lt ft W) (hb:Below W.heap.size W W') :TopS w g K l k r F tg Lw Bw lt ft W':=
 ⟨h.d.below hb,h.t.below (hb.mono h.z),h.b.trans (hb.mono h.b.size),Nat.le_trans h.z hb.size⟩
theorem TopS.alloc {w:World} {g K l:Nat} {k:Int} {r:List Nd} {F:Nat→Prop} {tg Lw Bw:Nat} {lt ft:List Nd} {W:World} (h:TopS w g K l k r F tg Lw Bw lt ft W) (o:Obj) :TopS w g K l k r F tg Lw Bw lt ft (W.alloc o):=h.below ((Below.refl _ _).alloc (Nat.le_refl _) o)
theorem law_TopAgree_no (l k K:Int) (r:List Nd) (A:Option Addr) (cap:Nat) (a b:Int) (w:World) (h: ¬goodL l k K r) (hS:Sl w w.heap.size encN A r) (hI:ints r) (hm:r.length≤maxLen) :
 Calls Tryz.prog 3 #[loadedV l k K A r.length cap,.int .i64 a,.int .i64 b] w fun e w'=>e=.returned (.bool true)∧Below w.heap.size w w':=by
 have HC:=LH (law16_Load_no · l k K A cap r h · hI hm);have HS:=LH hS;unfold loadedV refDig at HC;unfold loadedV;clear h hS hI
 go_enter Tryz.func3,Tryz.ntmps3
 go_wp2_with fail;refine(HC.out _ (HS.out.keep (by simp) fun p hp=>Go.RowKit.Below.cell (B:=w.heap.size) (w:=w) bE hp)).mono ?_;rintro e w1 ⟨rfl,hb1⟩;have B1:Below w.heap.size w w1:=Below.then_ bE hb1;have s1:=B1.size;have z1_0:w.heap.size<w1.heap.size:=by have:=hb1.size;(try simp at this);omega
 have y1_0:w.heap.size≤w1.heap.size:=Nat.le_of_lt z1_0;have c1_0:=czB hb1 (w.heap.size);have f1_0:=fzB hb1 (w.heap.size);go_wp2_with fail;refine(alive_top _).mono ?_;rintro e w2 ⟨rfl,hb2⟩;have B2:Below w.heap.size w w2:=Below.then_ bE hb2;have s2:=B2.size;go_wp2_with fail;exact bR (v:=.bool true) (by simp only [results,Tryz.results3];go_simp) rfl ⟨rfl,bE⟩
structure EdgF (l:Nat) (r:List Nd) (a1 b1:Int) (es:List Int) :Prop where
 e:binErr l es=0
 n:es.length≤2
 p:1≤(ofBins l r es).length
 q: (ofBins l r es).length≤3
 f: (ofBins l r es)[0]? =some (lowOf l r a1)
 z: (ofBins l r es)[(ofBins l r es).length - 1]? =some (sumR r - lowOf l r b1)
theorem edg_one {l:Nat} {r:List Nd} (hr:rightOf l r=true) {a b:Int} (h0:0≤a) (hab:a=b) (h1:b≤2^l - 1) :EdgF l r a b [a]:=by
 subst hab;obtain⟨h2,h3⟩:=bins_one hr h0 h1;exact⟨h2,by simp,by rw [h3];simp,by rw [h3];simp,by rw [h3];rfl,by rw [h3];rfl⟩
theorem edg_two {l:Nat} {r:List Nd} (hr:rightOf l r=true) {a b:Int} (h0:0≤a) (hab:a<b) (h1:b≤2^l - 1) :EdgF l r a b [a,b]:=by
 obtain⟨h2,h3⟩:=bins_two hr h0 hab h1;exact⟨h2,by simp,by rw [h3];simp,by rw [h3];simp,by rw [h3];rfl,by rw [h3];rfl⟩
theorem TopS.keep {w:World} {g K l:Nat} {k:Int} {r:List Nd} {F:Nat→Prop} {tg Lw Bw:Nat} {lt ft:List Nd} {W W':World} {z:Nat} (h:TopS w g K l k r F tg Lw Bw lt ft W) (hb:Below z W W') (hF: ∀b,F b→b<z) (hB:Bw≤z) (hw:w.heap.size≤z) :TopS w g K l k r F tg Lw Bw lt ft W':=
 ⟨h.d.keep fun b hb2=>hb.block b (hF b hb2),h.t.below (hb.mono hB),h.b.trans (hb.mono hw),Nat.le_trans h.z hb.size⟩
theorem law_TopAgree_yes (l K:Nat) (k:Int) (r:List Nd) (A:Option Addr) (cap:Nat) (a b:Int) (w:World) (h:goodL l k K r) (hS:Sl w w.heap.size encN A r) (hI:ints r) (wa:i64 a) (wb:i64 b) :
 Calls Tryz.prog 3 #[loadedV l k K A r.length cap,.int .i64 a,.int .i64 b] w fun e w'=>e=.returned (.bool true)∧Below w.heap.size w w':=by
 have hn:r.length≤67108864:=by have:=h.1;omega
 have hn6:r.length≤1000000:=by have:=h.1;omega
 have hr:=(goodL_parts h.2.2).1;have hli:=(goodL_parts h.2.2).2.2;have hload:=h.2.2;have hf:=(right_fits hr).1;have hl:=right_l48 hr;have hnd:=right_node hr;have hs0:=sumR_nonneg hf.roll;have hs1:=hf.sum;have p48:=pow_48 (n:=l) hl.2;have pp:=pow_pos' l;have HC:=LH (law16_Load · l K k A cap r h · hI);have HS:=LH hS;have HN:=LH (fun W g F (h:DigAt W g K l k r F)=>digest_N W g K l k r F h);have HA:=LH alive_top;unfold loadedV refDig at HC;unfold loadedV;obtain⟨a1,ha1⟩ : ∃a1,a1=min (max (min a b) 0) (2^l - 1):=⟨_,rfl⟩;obtain⟨b1,hb1⟩ : ∃b1,b1=min (max a (max b 0)) (2^l - 1):=⟨_,rfl⟩;have ha0:0≤a1∧a1≤b1∧b1≤2^l - 1:=by omega
 have HAB:=LH (And.intro ha1 hb1);clear h hS ha1 hb1
 go_enter Tryz.func3,Tryz.ntmps3
 go_wp2_with fail;have B0:Below w.heap.size w (w.alloc (.cells #[.int .i64 l,.int .i64 k,.int .i64 K,.slice A r.length cap] 26)):=bE;have KX:=LH (heap_alloc_new w (.cells #[.int .i64 l,.int .i64 k,.int .i64 K,.slice A r.length cap] 26));refine(HC.out _ (HS.out.keep (by simp) fun p hp=>B0.cell hp)).mono ?_;rintro e w1 ⟨g,F,rfl,hD,hF,hb1⟩;have KX1:=LH (bB KX.out hb1);have D1:=LH hD;have H1:=LH (B0.trans (hb1.mono B0.size));clear hD hF hb1 B0 KX HC HS;go_wp2_with fail;have A1:Below w1.heap.size w1 (w1.alloc (.cells #[.int .i64 k,.int .i64 l,.slice A r.length cap] 31)):=(Below.refl _ _).alloc (Nat.le_refl _) _;have KX2:=LH (bB KX1.out A1);have D2:=LH (D1.out.below A1);have H2:=LH (H1.out.trans (A1.mono H1.out.size));clear KX1 D1 H1 A1;generalize w1.alloc (.cells #[.int .i64 k,.int .i64 l,.slice A r.length cap] 31) =W2 at KX2 D2 H2⊢;have cx:=bC KX2.out;have zx:=lB KX2.out;refine rX (by kernel_rfl) (by kernel_rfl) ?_
 repeat (go_big_quiet_step ((go_at_call 6;exact quiet_ext (HN.out _ g F (D2.out.below (ext_below _ _))))))
 refine wpQuiet_nil ?_;intro w3 hb3;replace hb3:=bX hb3;have D3:=LH (D2.out.below hb3);have H3:=LH (H2.out.trans (hb3.mono H2.out.size));clear cx zx KX2 D2 H2 hb3;go_wp2_with fail;have ha1:=HAB.out.1;have hb1:=HAB.out.2;rw [←ha1,←hb1];clear ha1 hb1 HAB;have hTL:=rank_Of w3 g K l k r F D3.out hn;refine hTL.mono ?_;rintro e w4 ⟨tg,lt,ft,rfl,htab,htl,htf,hl1,hl2,hb4⟩;have T4:Hid (TopS w g K l k r F tg w3.heap.size w4.heap.size lt ft w4):=LH ⟨D3.out.below hb4,htab,H3.out.trans (hb4.mono H3.out.size),Nat.le_refl _⟩
 have HLo:Hid (∀x W,TopS w g K l k r F tg w3.heap.size w4.heap.size lt ft W→Calls Tryz.prog 9 #[.pointer (some ⟨tg,0,none⟩),.int .i64 x] W fun e w'=>e=.returned (.int .i64 (lowOf l r x))∧Below W.heap.size W w'):=
  LH (fun x W hT=>by have:=table_Low x hT.t (by omega) htl.rise;rwa [htl.upT,low_up] at this)
 have HHi:Hid (∀x W,TopS w g K l k r F tg w3.heap.size w4.heap.size lt ft W→Calls Tryz.prog 10 #[.pointer (some ⟨tg,0,none⟩),.int .i64 x] W fun e w'=>e=.returned (.int .i64 (highOf l r x))∧Below W.heap.size W w'):=
  LH (fun x W hT=>by have:=table_High x hT.t (by omega) htf.rise;rwa [htf.upT,high_up] at this)
 clear htab htl htf hl1 hl2 hb4 hTL D3 H3;generalize w3.heap.size=Lw at T4 HLo HHi;generalize w4.heap.size=Bw at T4 HLo HHi;go_wp2_with fail;have HB:=LH (fun W (hT:TopS w g K l k r F tg Lw Bw lt ft W)=>reach_Between W g K l k r F 0 b1 hT.d hn);rw [betw_yes (show ¬b1<0 by omega),betw_low hnd,betw_high hnd] at HB;refine(HB.out _ T4.out).mono ?_;rintro e w5 ⟨rfl,hb5⟩;have T5:=LH (T4.out.below hb5);clear hb5 HB T4;go_wp2_with fail;have T6:=LH (T5.out.alloc (.cells #[.int .i64 (lowOf l r b1),.int .i64 (highOf l r b1)] 40));have KM:=LH (heap_alloc_new w5 (.cells #[.int .i64 (lowOf l r b1),.int .i64 (highOf l r b1)] 40));generalize w5.alloc (.cells #[.int .i64 (lowOf l r b1),.int .i64 (highOf l r b1)] 40) =W6 at T6 KM⊢;generalize w5.heap.size=pm at KM⊢;have cm:=bC KM.out;have zm:=lB KM.out;clear T5;refine rX (by kernel_rfl) (by kernel_rfl) ?_
 repeat (go_big_quiet_step (first| (go_at_call 9;exact quiet_ext (HLo.out _ _ (T6.out.below (ext_below _ _)))) | (go_at_call 10;exact quiet_ext (HHi.out _ _ (T6.out.below (ext_below _ _))))))
 refine wpQuiet_nil ?_;intro w7 hb7;replace hb7:=bX hb7;have T7:=LH (T6.out.below hb7);clear hb7 T6 KM cm zm HHi;go_upto_region 11 with fail;have T8:=LH (T7.out.alloc (.cells #[.int .i64 a1] 3));have OE:Hid (Own (w7.alloc (.cells #[.int .i64 a1] 3)) w7.heap.size 3 encZ (.slice (some ⟨w7.heap.size,0,none⟩) 1 1) [a1]):=LH (Own.lit w7 encZ [a1] 3 (Nat.le_refl _) (by simp [maxLen]));have z8:w7.heap.size≤(w7.alloc (.cells #[.int .i64 a1] 3)).heap.size:=by simp
 generalize w7.alloc (.cells #[.int .i64 a1] 3) =W8 at T8 OE z8⊢;have ZF:Hid ((∀b,F b→b<w7.heap.size)∧Bw≤w7.heap.size∧w.heap.size≤w7.heap.size):=LH ⟨T7.out.d.lt,T7.out.z,T7.out.b.size⟩;generalize w7.heap.size=B7 at OE z8 ZF⊢
 go_upto_if 88 with fail
 go_cut [14] (fun v W=>∃(es:List Int) (A':Option Addr) (c':Nat),v=.slice A' es.length c'∧EdgF l r a1 b1 es∧Sl W W.heap.size encZ A' es∧TopS w g K l k r F tg Lw Bw lt ft W)
 case first=>
  by_cases hab:a1<b1
  ·have HE:=LH (edg_two hr ha0.1 hab ha0.2.2)
   go_wp2_with ((at_builtin;refine wpList_push tyZ rfl _ _ rfl encZ W8 B7 _ [a1] rfl OE.out b1 (by go_simp) rfl ?c1 ?c2 ?c3 ?c4))
   case c1=>simp
   case c2=>simp [maxLen]
   case c3=>exact z8
   case c4=>
    intro v9 w9 ho9 hg9 _ _ hb9 _;obtain⟨A9,c9,rfl,_⟩:=ho9.form;have T9:=T8.out.keep hb9 ZF.out.1 ZF.out.2.1 ZF.out.2.2;go_wp2_with fail
    go_meet
    exact⟨[a1,b1],A9,c9,rfl,HE.out,ho9.sl,T9⟩
  ·have HE:=LH (edg_one hr ha0.1 (show a1=b1 by omega) ha0.2.2)
   have hd:decide (a1<b1) =false:=by simpa using hab
   go_wp2_with fail
   go_meet
   exact⟨[a1],_,_,rfl,HE.out,OE.out.sl,T8.out⟩
 case rest=>
  obtain⟨es,A',c',rfl,hE,hSe,hT⟩:=hcut;have HE:=LH hE;have HSe:=LH hSe;have T9:=LH hT;clear hE hSe hT T8 OE z8 T7 ha0;have HBi:=LH (fun W (hT:TopS w g K l k r F tg Lw Bw lt ft W) (hS:Sl W W.heap.size encZ A' es)=>bins_Of W g K l k r F A' c' es hT.d hn hS (by have:=HE.out.n;omega) hr)
  have hwr:wrap64 (sumR r - lowOf l r b1) =sumR r - lowOf l r b1:=by
   have h1:=weighR_le (l:=l) (f:=fun _ hi=>decide (hi≤b1)) hf.roll;unfold lowOf wrap64;omega
  unfold BinsPost at HBi;rw [HE.out.e] at HBi;go_wp2_with fail;refine(HBi.out _ T9.out HSe.out).mono ?_;rintro e w10 ⟨v10,rfl,ho10,hb10⟩;have T10:=LH (T9.out.below hb10);obtain⟨A2,c2,rfl,_⟩:=ho10.form;have hLp:=HE.out.p;have hLq:=HE.out.q;have hLf:=HE.out.f;have hLz:=HE.out.z;generalize ofBins l r es=L at ho10 hLp hLq hLf hLz⊢;obtain⟨m,hm⟩ : ∃m,L.length=m+1:=⟨L.length - 1,by omega⟩;rw [hm,Nat.add_sub_cancel] at hLz;obtain⟨b2,o2,rfl,hb2,hc0⟩:=ho10.sl.at_ (k:=0) (by omega);obtain⟨b2',o2',he2,_,hcm⟩:=ho10.sl.at_ (k:=m) (by omega)
  injection he2 with he2
  injection he2 with e1 e2
  subst e1 e2;have d0:=hc0 0 (.int .i64 L[0]) rfl;have dm:=hcm 0 (.int .i64 L[m]) rfl;rw [List.getElem?_eq_getElem (by omega)] at hLf hLz
  injection hLf with hLf
  injection hLz with hLz
  rw [hLf] at d0;rw [hLz] at dm;simp only [Nat.zero_mul,Nat.mul_one,Nat.add_zero] at d0 dm;rw [hm];have hm2: (m:Int)≤2:=by omega
  clear hc0 hcm hLf hLz hLp hLq hb10 ho10 HBi HSe T9;have hmi: (m:Int) < (m:Int) +1:=by omega
  have hmw:wrap64 ((m:Int) +1 - 1) = (m:Int):=by unfold wrap64;omega
  go_wp2_with fail;refine rX (by kernel_rfl) (by kernel_rfl) ?_
  repeat (go_big_quiet_step ((go_at_call 9;exact quiet_ext (HLo.out _ _ (T10.out.below (ext_below _ _))))))
  refine wpQuiet_nil ?_;intro w11 hb11;replace hb11:=bX hb11;have T11:=LH (T10.out.below hb11);clear hb11 T10 d0 dm hb2;by_cases h0:sumR r=0
  ·have hz: (sumR r == 0) =true:=by simpa using h0
   go_wp2_with fail;refine(HA.out _).mono ?_;rintro e w12 ⟨rfl,hb12⟩;have B12:=T11.out.b.trans (hb12.mono T11.out.b.size);go_wp2_with fail;exact bR (v:=.bool true) (by simp only [results,Tryz.results3];go_simp) rfl ⟨rfl,B12⟩
  ·have hz: (sumR r == 0) =false:=beq_eq_false_iff_ne.2 h0
   obtain⟨md,hm1,hm2,hm3,hm4,hm5,hm6⟩:=med_facts hl hf (by omega);have HMe:=LH (fun W (hT:TopS w g K l k r F tg Lw Bw lt ft W)=>quant_Median W g K l k r F hT.d hn);rw [hm1] at HMe;unfold pairV at HMe;have HEv:=LH (fun W (hT:TopS w g K l k r F tg Lw Bw lt ft W)=>bins_Even W g K l k r F 2 hT.d hn);unfold EvenPost at HEv;have hee:evenErr r 2=0:=by unfold evenErr;rw [if_neg h0,if_neg (by omega)]
   rw [hm2,hee] at HEv;have HLm:=LH (fun W h=>HLo.out md W h);have HLn:=LH (fun W h=>HLo.out (md - 1) W h);have b1':=weighR_le (l:=l) (f:=fun _ hi=>decide (hi≤md)) hf.roll;have b2':=weighR_le (l:=l) (f:=fun _ hi=>decide (hi≤md - 1)) hf.roll;have e1':weighR l (fun _ hi=>decide (hi≤md)) r=lowOf l r md:=rfl;have e2':weighR l (fun _ hi=>decide (hi≤md - 1)) r=lowOf l r (md - 1):=rfl;rw [e1'] at b1';rw [e2'] at b2';generalize lowOf l r md=LM at HLm hm3 b1';generalize lowOf l r (md - 1) =LN at HLn hm4 b2';have x1:wrap64 (2*LM) =2*LM:=by unfold wrap64;omega
   have x2:wrap64 (2*LN) =2*LN:=by unfold wrap64;omega
   have x3:wrap64 (md - 1) =md - 1:=by unfold wrap64;omega
   have x4: ¬2*LM<sumR r:=by omega
   have x5: ¬sumR r≤2*LN:=by omega
   have HTh:=LH (fun W (hT:TopS w g K l k r F tg Lw Bw lt ft W)=>top_through W g K l k r F hT.d hload hn6 hI);have hge:gapErr l l r r=0:=by unfold gapErr;rw [if_neg (by simp),if_neg (by omega)]
   have hgm:gapMostErr l l r r 1000=0:=by unfold gapMostErr;rw [if_pos hge,if_neg (by omega)]
   have HAp:=LH (fun W gc Fc (hT:TopS w g K l k r F tg Lw Bw lt ft W) (hc:DigAt W gc (kindT l K) l k r Fc)=>gap_Apart W g K l gc (kindT l K) l k k r r F Fc hT.d hc hn hn);rw [apT_same hf.roll hr,hge] at HAp;have HMo:=LH (fun W gc Fc (hT:TopS w g K l k r F tg Lw Bw lt ft W) (hc:DigAt W gc (kindT l K) l k r Fc)=>gap_Most W g K l gc (kindT l K) l k k r r F Fc 1000 hT.d hc hn hn (by decide));rw [gapMostT_same hf.roll hr,hgm] at HMo;generalize (gapMostT l l r r 1000).2=mh at HMo;have HWo:=LH (fun W (hT:TopS w g K l k r F tg Lw Bw lt ft W)=>bound_Worst W g K l k r F hT.d hn);have HSl:=LH (fun W (hT:TopS w g K l k r F tg Lw Bw lt ft W)=>rank_Slack W g K l k r F hT.d);have hwo:=worst_slack hl hf hnd T11.out.d.1 hli;have hwe: (worstT l r).2.2=0:=by unfold worstT;rw [if_neg h0]
   unfold triV at HWo;rw [hwe] at HWo;generalize (worstT l r).1=wx at HWo;generalize (worstT l r).2.1=wg at HWo hwo;generalize (l:Int) * (sumR r / k) =sl at HSl hwo;clear hge hgm hwe;clear e1' e2' b1' b2' hm1 hm2 hm3 hm4 hm5 hm6 hee HLo hwr h0;go_wp2_with fail;refine(HMe.out _ T11.out).mono ?_;rintro e w12 ⟨rfl,hb12⟩;have T12:=LH (T11.out.below hb12);clear hb12 T11 HMe;go_wp2_with fail;refine(HEv.out _ T12.out).mono ?_;rintro e w13 ⟨v13,rfl,ho13,hb13⟩;have T13:=LH (T12.out.below hb13);obtain⟨A3,c3,rfl,_⟩:=ho13.form;obtain⟨b3,o3,rfl,hb3,hc3⟩:=ho13.sl.at_ (k:=0) (by simp);have d3:=hc3 0 (.int .i64 md) rfl;simp only [Nat.zero_mul,Nat.mul_one,Nat.add_zero] at d3;clear ho13 hc3 hb13 T12 HEv;go_wp2_with fail;refine(HLm.out _ T13.out).mono ?_;rintro e w14 ⟨rfl,hb14⟩;have T14:=LH (T13.out.below hb14);clear hb14 T13 HLm;go_wp2_with fail;refine(HLn.out _ T14.out).mono ?_;rintro e w15 ⟨rfl,hb15⟩;have T15:=LH (T14.out.below hb15);clear hb15 T14 HLn d3 hb3;go_wp2_with fail;refine(HTh.out _ T15.out).mono ?_;rintro e w16 ⟨gc,Fc,rfl,hc16,_,hb16⟩;have T16:=LH (T15.out.below hb16);have C16:=LH hc16;clear hb16 hc16 T15 HTh;go_wp2_with fail;refine(HAp.out _ gc Fc T16.out C16.out).mono ?_;rintro e w17 ⟨rfl,hb17⟩;have T17:=LH (T16.out.below hb17);have C17:=LH (C16.out.below hb17);clear hb17 C16 T16 HAp;go_wp2_with fail;refine(HMo.out _ gc Fc T17.out C17.out).mono ?_;rintro e w18 ⟨rfl,hb18⟩;have T18:=LH (T17.out.below hb18);have A18:Below w18.heap.size w18 (w18.alloc (.cells #[.int .i64 0,.int .i64 mh] 40)):=(Below.refl _ _).alloc (Nat.le_refl _) _;have T18a:=LH (T18.out.below A18);have KU:=LH (heap_alloc_new w18 (.cells #[.int .i64 0,.int .i64 mh] 40));clear hb18 C17 T17 HMo T18 A18;go_wp2_with fail;refine(HWo.out _ T18a.out).mono ?_;rintro e w19 ⟨rfl,hb19⟩;have T19:=LH (T18a.out.below hb19);have KU19:=LH (bB KU.out hb19);have cu:=bC KU19.out;have zu:=lB KU19.out;clear hb19 T18a KU HWo;go_wp2_with fail;refine(HSl.out _ T19.out).mono ?_;rintro e w20 ⟨rfl,hb20⟩;have T20:=LH (T19.out.below hb20);have hws:decide (wg≤sl) =true:=decide_eq_true hwo;clear hb20 T19 HSl KU19 cu zu;go_wp2_with fail;refine(HA.out _).mono ?_;rintro e w21 ⟨rfl,hb21⟩;have B21:=T20.out.b.trans (hb21.mono T20.out.b.size);go_wp2_with fail;exact bR (v:=.bool true) (by simp only [results,Tryz.results3];go_simp) rfl ⟨rfl,B21⟩
theorem law_TopAgree (l k K:Int) (r:List Nd) (A:Option Addr) (cap:Nat) (a b:Int) (w:World) (hS:Sl w w.heap.size encN A r) (hI:ints r) (wl:i64 l) (wk:i64 k) (wK:i64 K) (hm:r.length≤maxLen) (wa:i64 a) (wb:i64 b) :
 Calls Tryz.prog 3 #[loadedV l k K A r.length cap,.int .i64 a,.int .i64 b] w fun e w'=>e=.returned (.bool true)∧Below w.heap.size w w':=by
 by_cases h:goodL l k K r
 ·obtain⟨n,m,rfl,rfl⟩:=goodL_nat h.2.2
  exact law_TopAgree_yes n m k r A cap a b w h hS hI wa wb
 ·exact law_TopAgree_no l k K r A cap a b w h hS hI hm
end Go.Proofs.YtapgmnnchbepiaaGreat
