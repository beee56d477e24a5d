/-
  Texts of this proof, one behind the other: Wire, Send, Alive31, Ref31, Like31, SenRef, SenMore, SenNext, SenHear1, Ref24E, Ref31B, Ref14L, Ref14M, Ref31N, Ref31H, SenHear, GroveLaw, OfLaw, Ref14O, TextLaw, StepLaw, EpMem, CrewBits.
-/
import Derived.Lib.TrailingZeros
import Derived.Test.YtlgnakobjkhmhaaGreatDoorR1
import Derived.Test.YtlgnakobjkhmhaaGreatDoorR2
import Derived.Test.YtlgnakobjkhmhaaGreatDoorR3
import Derived.Test.YtlgnakobjkhmhaaGreatDoorR4
import Derived.Test.YtlgnakobjkhmhaaGreatDoorR5
import Derived.Test.YtlgnakobjkhmhaaGreatDoorR6
import Derived.Test.YtlgnakobjkhmhaaGreatDoorR7
set_option linter.unusedVariables false
set_option linter.unusedSimpArgs false
set_option maxRecDepth 100000
set_option maxHeartbeats 16000000
namespace Go.Proofs.YtlgnakobjkhmhaaGreatDoor
open Go.ChangeShapes Go.WideShapes Go.ChangeAt Go.RowKit
theorem vary_Put0 (w:World) (base:Nat) (v:Value) (ho:Own w base 3 encZ v []) :Calls Tryz.prog 157 #[v] w fun e w'=>e=.returned (.tuple #[.string ⟨#[]⟩,.int .i64 0])∧Below w.heap.size w w':=by
 obtain⟨A,c,rfl,_⟩:=ho.form;clear ho;simp only [List.length_nil];have hcv: ∀W,(convert 235 9 (.slice none 0 0)).run Tryz.prog W=.ok (.string ⟨#[]⟩) W:=fun W=>by kernel_rfl
 go_enter Tryz.func157,Tryz.ntmps157
 go_wp2_with fail
 go_loopw [4,9] (fun u j wr=>j=.int .i64 (0:Nat)∧u=.slice none 0 0∧Below w.heap.size w wr) (fun _ j _=>0)
 case atStart=>exact⟨rfl,rfl,Below.refl _ _⟩
 case round=>
  obtain⟨rfl,rfl,hB⟩:=hrel;have HB:=LH hB;clear hB;have hc:=hcv wr;go_wp2_with fail
  all_goals exact bR (v:=.tuple #[.string ⟨#[]⟩,.int .i64 0]) (by simp only [results,Tryz.results157];go_simp) rfl ⟨rfl,HB.out⟩
theorem vary_PutC (w:World) (base:Nat) (v:Value) (L:List Int) (ho:Own w base 3 encZ v L) (hi: ∀x∈L,i64 x∧0≤x) (hl:L.length≤65536) :
 Calls Tryz.prog 157 #[v] w fun e w'=>e=.returned (.tuple #[.string ⟨(putB L).toArray⟩,.int .i64 0])∧Below w.heap.size w w':=by
 cases L with
 |nil=>exact vary_Put0 w base v ho
 |cons x L=>
  refine(vary_Put w base v (x :: L) ho (fun y hy=>(hi y hy).1) hl (by simp)).mono ?_;rintro e w' ⟨⟨t,he,ht⟩,hb⟩;have hal: (x :: L).all (fun y=>decide (0≤y)) =true:=List.all_eq_true.2 fun y hy=>by simpa using (hi y hy).2
  rw [if_pos hal] at he;exact⟨by rw [he,ht hal],hb⟩
structure TwoL (B:Nat) (w3:World) (U1:Value) (L1:List Int) (U2:Value) (L2:List Int) (W:World) :Prop where
 o1:Own W B 3 encZ U1 L1
 o2:Own W B 3 encZ U2 L2
 sep:Sep U1 U2
 b:Below B w3 W
 size:B≤W.heap.size
section
variable {B:Nat} {w3:World} {U1 U1' U2 U2':Value} {L1 L1' L2 L2':List Int} {W W':World}
theorem TwoL.below (h:TwoL B w3 U1 L1 U2 L2 W) (hb:Below W.heap.size W W') :TwoL B w3 U1 L1 U2 L2 W':=⟨h.o1.below hb,h.o2.below hb,h.sep,h.b.trans (hb.mono h.size),Nat.le_trans h.size hb.size⟩
theorem TwoL.alloc (h:TwoL B w3 U1 L1 U2 L2 W) (o:Obj) :TwoL B w3 U1 L1 U2 L2 (W.alloc o):=h.below ((Below.refl _ _).alloc (Nat.le_refl _) o)
theorem TwoL.drew (h:TwoL B w3 U1 L1 U2 L2 W) :TwoL B w3 U1 L1 U2 L2 W.drew:=h.below (Below.refl _ _).drew
theorem TwoL.app1 (h:TwoL B w3 U1 L1 U2 L2 W) (hg:W.grownBy W' U1.ownBlock) (ho:Own W' B 3 encZ U1' L1') (hl:U1'.ownBlock=U1.ownBlock∨U1'.ownBlock=some W.heap.size) (hb:Below B W W') :TwoL B w3 U1' L1' U2 L2 W':=
 ⟨ho,h.o2.kept hg (by
  cases e:U2.ownBlock with
  |none=>exact .inl rfl
  |some g=>exact .inr fun he=>h.sep g (by rw [←he]) e),fun g h1 h2=>by
   rcases hl with hl|hl
   ·exact h.sep g (hl ▸ h1) h2
   ·rw [hl] at h1;cases h1;exact absurd (h.o2.lt _ h2).2 (Nat.lt_irrefl _),h.b.trans hb,Nat.le_trans h.size hb.size⟩
theorem TwoL.swap (h:TwoL B w3 U1 L1 U2 L2 W) :TwoL B w3 U2 L2 U1 L1 W:=⟨h.o2,h.o1,h.sep.symm,h.b,h.size⟩
theorem TwoL.app2 (h:TwoL B w3 U1 L1 U2 L2 W) (hg:W.grownBy W' U2.ownBlock) (ho:Own W' B 3 encZ U2' L2') (hl:U2'.ownBlock=U2.ownBlock∨U2'.ownBlock=some W.heap.size) (hb:Below B W W') :TwoL B w3 U1 L1 U2' L2' W':=(h.swap.app1 hg ho hl hb).swap
end
structure OffB (x:Nat) (o:Obj) (U1 U2:Value) (W:World) :Prop where
 h:W.heap[x]? =some o
 n1:U1.ownBlock≠some x
 n2:U2.ownBlock≠some x
section
variable {x:Nat} {o:Obj} {U1 U1' U2 U2':Value} {W W':World}
theorem OffB.below (h:OffB x o U1 U2 W) (hb:Below W.heap.size W W') :OffB x o U1 U2 W':=⟨bB h.h hb,h.n1,h.n2⟩
theorem OffB.alloc (h:OffB x o U1 U2 W) (p:Obj) :OffB x o U1 U2 (W.alloc p):=h.below ((Below.refl _ _).alloc (Nat.le_refl _) p)
theorem OffB.drew (h:OffB x o U1 U2 W) :OffB x o U1 U2 W.drew:=⟨h.h,h.n1,h.n2⟩
theorem OffB.app1 (h:OffB x o U1 U2 W) (hg:W.grownBy W' U1.ownBlock) (hl:U1'.ownBlock=U1.ownBlock∨U1'.ownBlock=some W.heap.size) :OffB x o U1' U2 W':=
 ⟨blk_grown_not h.h hg h.n1,fun e=>by
  rcases hl with hl|hl
  ·exact h.n1 (hl ▸ e)
  ·rw [hl] at e;cases e;exact absurd (lB h.h) (Nat.lt_irrefl _),h.n2⟩
theorem OffB.swap (h:OffB x o U1 U2 W) :OffB x o U2 U1 W:=⟨h.h,h.n2,h.n1⟩
theorem OffB.app2 (h:OffB x o U1 U2 W) (hg:W.grownBy W' U2.ownBlock) (hl:U2'.ownBlock=U2.ownBlock∨U2'.ownBlock=some W.heap.size) :OffB x o U1 U2' W':=(h.swap.app1 hg hl).swap
theorem OffB.new {B:Nat} {w3:World} {L1 L2:List Int} (h:TwoL B w3 U1 L1 U2 L2 W) (cs:Array Value) (t:TypeId) :OffB W.heap.size (.cells cs t (0,0)) U1 U2 (W.alloc (.cells cs t)):=
 ⟨heap_alloc_new W _,h.o1.not_at _ (Nat.le_refl _),h.o2.not_at _ (Nat.le_refl _)⟩
end
theorem sl_one {W:World} {b t:Nat} {x:Int} (h:W.heap[b]? =some (.cells #[.int .i64 x] t (0,0))) :Sl W W.heap.size encZ (some ⟨b,0,none⟩) [x]:=sl_cell (by rw [bC h];rfl) (lB h)
theorem back1 (W:World) (a:UInt8) (n:Nat) (hn:n=W.heap.size) :
 (convert 235 9 (.slice (some ⟨n,0,none⟩) 1 1)).run Tryz.prog (W.alloc (.cells #[.int .u8 (a.toNat:Int)] 5)) =.ok (.string ⟨[a].toArray⟩) (W.alloc (.cells #[.int .u8 (a.toNat:Int)] 5)):=by
 subst hn;refine run_convert_bytes_back (P:=Tryz.prog) _ 235 9 5 ⟨W.heap.size,0,none⟩ 1 [a] Tryz.underlying235 Tryz.underlying5 Tryz.underlying9 ?_;intro j hj;rw [show Addr.add ⟨W.heap.size,0,none⟩ j= ⟨W.heap.size,j,none⟩ by unfold Addr.add;split <;> simp_all];rw [World.cell?_alloc_mark];simp only [List.length_cons,List.length_nil] at hj
 match j,hj with
 |0,_=>rfl
structure WireF (l:Nat) (k:Int) (r:List Nd) :Prop where
 up:risesOk (r.map (·.1)) =true
 ids: ∀x∈r.map (·.1),i64 x
 cts: ∀x∈r.map (·.2),i64 x∧0≤x
 hd: ∀x∈ [k,sumR r],i64 x∧0≤x
 l1: (putB [k,sumR r]).length≤18
 l2: (risesB (r.map (·.1))).length≤9+9*r.length
 l3: (putB (r.map (·.2))).length≤9*r.length
theorem steps_ok: ∀{L:List Int} {p:Int},(p :: L).Pairwise (· < ·)→(List.zipWith (fun x q=>x - q) L (p :: L)).all (fun d=>decide (0<d)) =true:=by
 intro L
 induction L with
 |nil=>intro p _;simp
 |cons x L ih=>
  intro p h;obtain⟨h1,h2⟩:=List.pairwise_cons.1 h;have:=h1 x (by simp);simp only [List.zipWith_cons_cons,List.all_cons,Bool.and_eq_true,decide_eq_true_eq];exact⟨by omega,ih h2⟩
theorem steps_le: ∀{L:List Int} {p:Int},0≤p→(p :: L).Pairwise (· < ·)→(∀x∈L,x≤9223372036854775807)→∀d∈List.zipWith (fun x q=>x - q) L (p :: L),d≤9223372036854775807:=by
 intro L
 induction L with
 |nil=>intro p _ _ _ d hd;simp at hd
 |cons x L ih=>
  intro p hp h hx d hd;obtain⟨h1,h2⟩:=List.pairwise_cons.1 h;have:=h1 x (by simp);have:=hx x (by simp);simp only [List.zipWith_cons_cons,List.mem_cons] at hd;rcases hd with rfl|hd
  ·omega
  ·exact ih (by omega) h2 (fun y hy=>hx y (by simp [hy])) d hd
theorem WireF.of {l:Nat} {k:Int} {r:List Nd} (hl:1≤l∧l≤48) (hf:Fits l r) (hk:1≤k) (hk2:k≤1048576) (hn:r.length≤60000) :WireF l k r:=by
 have hs0:=sumR_nonneg hf.roll;have hs1:=hf.sum
 have hup: ((0:Int) :: r.map (·.1)).Pairwise (· < ·):=by
  refine List.pairwise_cons.2 ⟨?_,?_⟩
  ·intro x hx
   obtain⟨y,hy,rfl⟩:=List.mem_map.1 hx;have:=(hf.roll.2 y hy).1;omega
  ·rw [List.pairwise_map];exact hf.roll.1
 have hi: ∀x∈r.map (·.1),i64 x:=by
  intro x hx;obtain⟨y,hy,rfl⟩:=List.mem_map.1 hx;have h1:=isNode_lt (hf.nodes hl y hy);have h2:=pow_48 hl.2
  constructor <;> omega
 have hc: ∀x∈r.map (·.2),i64 x∧0≤x:=by
  intro x hx;obtain⟨y,hy,rfl⟩:=List.mem_map.1 hx;have h1:=(hf.roll.2 y hy).2;have h2:=getR_le_sum hf.roll y.1;rw [getR_mem hf.roll hy] at h2;exact⟨by constructor <;> omega,by omega⟩
 have hh: ∀x∈ [k,sumR r],i64 x∧0≤x:=by
  intro x hx;simp only [List.mem_cons,List.not_mem_nil,or_false] at hx;rcases hx with rfl|rfl
  ·exact⟨by constructor <;> omega,by omega⟩
  ·exact⟨by constructor <;> omega,by omega⟩
 refine⟨steps_ok hup,hi,hc,hh,?_,?_,?_⟩
 ·exact putB_len (L:= [k,sumR r]) fun x hx=>(hh x hx).1.2
 ·have h1:=putB_len (L:=stepD (r.map (·.1))) (steps_le (Int.le_refl 0) hup fun x hx=>(hi x hx).2)
  have h2:=oneB_le (n:=(r.map (·.1)).length) (by simp;omega);unfold risesB;rw [stepD_len] at h1;simp only [List.length_append,List.length_map] at h1 h2⊢;omega
 ·have:=putB_len (L:=r.map (·.2)) fun x hx=>(hc x hx).1.2
  simpa using this
theorem map_take {r:List Nd} {q:Nat} {y:Nd} (h:q<r.length) (hy:r[q] =y) : (r.take (q+1)).map (·.1) = (r.take q).map (·.1) ++ [y.1]∧(r.take (q+1)).map (·.2) = (r.take q).map (·.2) ++ [y.2]:=by
 rw [List.take_succ_eq_append_getElem h,hy];simp
theorem wire_Encode (w:World) (g K l:Nat) (k:Int) (r:List Nd) (F:Nat→Prop) (h:DigAt w g K l k r F) (hn:r.length≤60000) :
 Calls Tryz.prog 109 #[.pointer (some ⟨g,0,none⟩)] w fun e w'=>e=.returned (.tuple #[.string ⟨(wireT l k r).toArray⟩,.int .i64 0])∧Below w.heap.size w w':=by
 have HD:=LH h;have hll:=h.l_le;have hk:1≤k∧k≤1048576:=by obtain⟨p,F0,_,_,_,_,h1,h2⟩:=h.parts;exact⟨h1,h2⟩
 have HC:=LH (digest_Conf w g K l k r F h);have HF:=LH h.fits;obtain⟨G,hG⟩ : ∃G,G=wireT l k r:=⟨_,rfl⟩;rw [←hG];have HG:=LH hG;clear h hG
 go_enter Tryz.func109,Tryz.ntmps109
 go_wp2_with fail;refine HC.out.mono ?_;rintro e w1 ⟨rfl,hb1⟩;have X2:=LH (heap_alloc_new w1 (.cells #[.int .i64 l,.int .i64 k,.int .i64 K] 28));have B2:Hid (Below w.heap.size w (w1.alloc (.cells #[.int .i64 l,.int .i64 k,.int .i64 K] 28))):=LH bE;have D2:=LH (HD.out.below B2.out);clear HC hb1;go_upto_region 5 with fail;generalize w1.alloc (.cells #[.int .i64 l,.int .i64 k,.int .i64 K] 28) =w2 at X2 B2 D2⊢;go_wp2_with fail;refine(digest_Nodes w2 g K l k r F D2.out (by omega)).mono ?_;rintro e w3 ⟨v,rfl,ho,hb3⟩;obtain⟨A,cap,rfl,_⟩:=ho.form;have O3:=LH ho;have X3:=LH (bB X2.out hb3);have D3:=LH (D2.out.below hb3);have B3:=LH (Below.then_ B2.out hb3);obtain⟨B,hBe⟩ : ∃B,B=w3.heap.size:=⟨_,rfl⟩;have HBe:=LH hBe;have TS:Hid (TwoL B w3 (.slice none 0 0) [] (.slice none 0 0) [] w3):=LH ⟨Own.nil _ _ _ _,Own.nil _ _ _ _,(fun g h1=>by cases h1),Below.refl _ _,by omega⟩;clear ho hb3 D2 X2 B2 hBe;go_wp2_with fail
 go_loopw [5,6,22] (fun V1 V2 j wr=>∃q:Nat,q≤r.length∧j=.int .i64 q∧TwoL B w3 V1 ((r.take q).map (·.1)) V2 ((r.take q).map (·.2)) wr) (fun _ _ j _=>r.length - (intOf j).toNat)
 case atStart=>exact⟨0,Nat.zero_le _,rfl,by simpa using TS.out⟩
 case round=>
  obtain⟨q,hq,rfl,hT⟩:=hrel;have KT:=LH hT;have hBw:=hT.size;have OR:=LH (O3.out.sl.keep (B':=wr.heap.size) (by have:=HBe.out;omega) fun p hp=>hT.b.cell (by have:=HBe.out;omega));clear hT;by_cases hlt:q<r.length
  ·have hqi: (q:Int) < (r.length:Int):=by omega
   obtain⟨b,off,rfl,hb,hc⟩:=OR.out.at_ hlt;have d0:=hc 0 (.int .i64 r[q].1) rfl;have d1:=hc 1 (.int .i64 r[q].2) rfl;simp only [Nat.add_zero] at d0;obtain⟨y,hy⟩ : ∃y,r[q] =y:=⟨_,rfl⟩;have HT1:=LH (map_take hlt hy).1;have HT2:=LH (map_take hlt hy).2;rw [hy] at d0 d1;have T0:=LH (KT.out.alloc (.cells #[.int .i64 y.1,.int .i64 y.2] 172));have N0:=LH (OffB.new KT.out #[.int .i64 y.1,.int .i64 y.2] 172);clear hc hy;go_upto_region 8 with fail;generalize wr.alloc (.cells #[.int .i64 y.1,.int .i64 y.2] 172) =Wa at T0 N0⊢;replace T0:=LH T0.out.drew;replace N0:=LH N0.out.drew;refine wp_region_noPanic ?_;refine wp_region_N (fun w'=>w'.heap[wr.heap.size]? =some (.cells #[.int .i64 y.1,.int .i64 y.2] 172 (0,0))) [] (by kernel_rfl) (N0.out.h) (fun hHeld=> ?_);generalize Wa.drew=Wd at T0 N0 hHeld⊢;refine nP 0 (u5) (h:= ?_)
   (try simp only [zA,zB,zC,Act.put,zD,zE,zF])
   refine nP 1 (Value.pointer (some ⟨wr.heap.size,0,none⟩)) (h:= ?_)
   (try simp only [zA,zB,zC,Act.put,zD,zE,zF])
   refine nT 2 (Value.int .i64 y.1) (y:=Or.inl ⟨by rfl,fun W hW=>by have q1:=bC hW;have q2:=lB hW;go_simp⟩) (s:=N0.out.h) (h:= ?_)
   (try simp only [zA,zB,zC,Act.put,zD,zE,zF])
   refine nP 5 (u6) (h:= ?_)
   (try simp only [zA,zB,zC,Act.put,zD,zE,zF])
   refine nP 6 (Value.pointer (some ⟨wr.heap.size,1,none⟩)) (h:= ?_)
   (try simp only [zA,zB,zC,Act.put,zD,zE,zF])
   refine nT 7 (Value.int .i64 y.2) (y:=Or.inl ⟨by rfl,fun W hW=>by have q1:=bC hW;have q2:=lB hW;go_simp⟩) (s:=N0.out.h) (h:= ?_)
   (try simp only [zA,zB,zC,Act.put,zD,zE,zF])
   clear hHeld;refine wpAnyN_two (i:=3) (k:=8) (by kernel_rfl) rfl rfl (fun K hK=> ?_) (fun K hK=> ?_)
   ·skip
    go_simp;refine hK.out _ _ (fun _ hS=>bB hS ((Below.refl _ _).alloc (Nat.le_refl _) _)) ?_;clear hK K
    (try simp only [zA,zB,zC,Act.put,zD,zE,zF])
    have L1:=LH (OffB.new T0.out #[.int .i64 y.1] 3);have T1:=LH (T0.out.alloc (.cells #[.int .i64 y.1] 3));have N1:=LH (N0.out.alloc (.cells #[.int .i64 y.1] 3));have hs1:Wd.heap.size< (Wd.alloc (.cells #[.int .i64 y.1] 3)).heap.size:=by simp
    generalize Wd.alloc (.cells #[.int .i64 y.1] 3) =W1 at L1 T1 N1 hs1⊢;refine wpAnyN_two (i:=4) (k:=8) (by kernel_rfl) rfl rfl (fun K hK=> ?_) (fun K hK=> ?_)
    ·skip
     refine step_app (o:=⟨some 30,_,_,_,_,_⟩) tyZ (by rfl) _ _ (by rfl) encZ B u5 ((r.take q).map (·.1)) (by rfl) T1.out.o1 _ 1 [y.1] _ (by rfl) (sl_one L1.out.h) (by simp only [List.length_map,List.length_take,List.length_append,List.length_cons,List.length_nil];omega) (by simp only [maxLen,List.length_map,List.length_take,List.length_append,List.length_cons,List.length_nil];omega) T1.out.size ?_;intro v2 W2 ho2 hg2 hl2 hb2 hn2;refine hK.out _ _ (fun _ hS=>blk_grown_not hS hg2 N1.out.n1) ?_;clear hK K
     (try simp only [zA,zB,zC,Act.put,zD,zE,zF])
     have T2:=LH (T1.out.app1 hg2 ho2 hl2 hb2);have N2:=LH (N1.out.app1 hg2 hl2);clear ho2 hg2 hl2 hb2 hn2;refine nO (i:=8) (by kernel_rfl) rfl (fun K hK=> ?_);go_simp;refine hK.out _ _ (fun _ hS=>bB hS ((Below.refl _ _).alloc (Nat.le_refl _) _)) ?_;clear hK K
     (try simp only [zA,zB,zC,Act.put,zD,zE,zF])
     have L3:=LH (OffB.new T2.out #[.int .i64 y.2] 3);have T3:=LH (T2.out.alloc (.cells #[.int .i64 y.2] 3));have N3:=LH (N2.out.alloc (.cells #[.int .i64 y.2] 3));have M3:=LH (L1.out.alloc (.cells #[.int .i64 y.2] 3));have hs3:W2.heap.size< (W2.alloc (.cells #[.int .i64 y.2] 3)).heap.size:=by simp
     generalize W2.alloc (.cells #[.int .i64 y.2] 3) =W3 at L3 T3 N3 M3 hs3⊢;refine nO (i:=9) (by kernel_rfl) rfl (fun K hK=> ?_);refine step_app (o:=⟨some 35,_,_,_,_,_⟩) tyZ (by rfl) _ _ (by rfl) encZ B u6 ((r.take q).map (·.2)) (by rfl) T3.out.o2 _ 1 [y.2] _ (by rfl) (sl_one L3.out.h) (by simp only [List.length_map,List.length_take,List.length_append,List.length_cons,List.length_nil];omega) (by simp only [maxLen,List.length_map,List.length_take,List.length_append,List.length_cons,List.length_nil];omega) T3.out.size ?_;intro v4 W4 ho4 hg4 hl4 hb4 hn4;refine hK.out _ _ (fun _ hS=>blk_grown_not hS hg4 N3.out.n2) ?_;clear hK K
     (try simp only [zA,zB,zC,Act.put,zD,zE,zF])
     have T4:=LH (T3.out.app2 hg4 ho4 hl4 hb4);have N4:=LH (N3.out.app2 hg4 hl4);clear ho4 hg4 hl4 hb4 hn4;refine nP 10 (v2) (h:= ?_)
     (try simp only [zA,zB,zC,Act.put,zD,zE,zF])
     refine nO (i:=11) (by kernel_rfl) rfl (fun K hK=> ?_);go_simp;refine hK.out _ _ (fun _ _=>N4.out.h) ?_;clear hK K
     (try simp only [zA,zB,zC,Act.put,zD,zE,zF])
     refine nD (by kernel_rfl) ?_ _;refine NoPanic.normal ?_;have HE:=LH T4.out;obtain⟨A1,c1,e1,_⟩:=HE.out.o1.form;obtain⟨A2,c2,e2,_⟩:=HE.out.o2.form;go_wp2_with fail;go_roundw
     case rel=>exact⟨q+1,by omega,by go_num,by rw [HT1.out,HT2.out];exact HE.out⟩
     case measure=>simp [intOf];omega
    ·skip
     go_simp;refine hK.out _ _ (fun _ hS=>bB hS ((Below.refl _ _).alloc (Nat.le_refl _) _)) ?_;clear hK K
     (try simp only [zA,zB,zC,Act.put,zD,zE,zF])
     have L5:=LH (OffB.new T1.out #[.int .i64 y.2] 3);have T5:=LH (T1.out.alloc (.cells #[.int .i64 y.2] 3));have N5:=LH (N1.out.alloc (.cells #[.int .i64 y.2] 3));have M5:=LH (L1.out.alloc (.cells #[.int .i64 y.2] 3));have hs5:W1.heap.size< (W1.alloc (.cells #[.int .i64 y.2] 3)).heap.size:=by simp
     generalize W1.alloc (.cells #[.int .i64 y.2] 3) =W5 at L5 T5 N5 M5 hs5⊢;refine nO (i:=4) (by kernel_rfl) rfl (fun K hK=> ?_);refine step_app (o:=⟨some 30,_,_,_,_,_⟩) tyZ (by rfl) _ _ (by rfl) encZ B u5 ((r.take q).map (·.1)) (by rfl) T5.out.o1 _ 1 [y.1] _ (by rfl) (sl_one M5.out.h) (by simp only [List.length_map,List.length_take,List.length_append,List.length_cons,List.length_nil];omega) (by simp only [maxLen,List.length_map,List.length_take,List.length_append,List.length_cons,List.length_nil];omega) T5.out.size ?_;intro v6 W6 ho6 hg6 hl6 hb6 hn6;refine hK.out _ _ (fun _ hS=>blk_grown_not hS hg6 N5.out.n1) ?_;clear hK K
     (try simp only [zA,zB,zC,Act.put,zD,zE,zF])
     have T6:=LH (T5.out.app1 hg6 ho6 hl6 hb6);have N6:=LH (N5.out.app1 hg6 hl6);have M6:=LH (L5.out.app1 hg6 hl6);clear ho6 hg6 hl6 hb6 hn6;refine nO (i:=9) (by kernel_rfl) rfl (fun K hK=> ?_);refine step_app (o:=⟨some 35,_,_,_,_,_⟩) tyZ (by rfl) _ _ (by rfl) encZ B u6 ((r.take q).map (·.2)) (by rfl) T6.out.o2 _ 1 [y.2] _ (by rfl) (sl_one M6.out.h) (by simp only [List.length_map,List.length_take,List.length_append,List.length_cons,List.length_nil];omega) (by simp only [maxLen,List.length_map,List.length_take,List.length_append,List.length_cons,List.length_nil];omega) T6.out.size ?_;intro v7 W7 ho7 hg7 hl7 hb7 hn7;refine hK.out _ _ (fun _ hS=>blk_grown_not hS hg7 N6.out.n2) ?_;clear hK K
     (try simp only [zA,zB,zC,Act.put,zD,zE,zF])
     have T7:=LH (T6.out.app2 hg7 ho7 hl7 hb7);have N7:=LH (N6.out.app2 hg7 hl7);clear ho7 hg7 hl7 hb7 hn7;refine nP 10 (v6) (h:= ?_)
     (try simp only [zA,zB,zC,Act.put,zD,zE,zF])
     refine nO (i:=11) (by kernel_rfl) rfl (fun K hK=> ?_);go_simp;refine hK.out _ _ (fun _ _=>N7.out.h) ?_;clear hK K
     (try simp only [zA,zB,zC,Act.put,zD,zE,zF])
     refine nD (by kernel_rfl) ?_ _;refine NoPanic.normal ?_;have HE:=LH T7.out;obtain⟨A1,c1,e1,_⟩:=HE.out.o1.form;obtain⟨A2,c2,e2,_⟩:=HE.out.o2.form;go_wp2_with fail;go_roundw
     case rel=>exact⟨q+1,by omega,by go_num,by rw [HT1.out,HT2.out];exact HE.out⟩
     case measure=>simp [intOf];omega
   ·skip
    go_simp;refine hK.out _ _ (fun _ hS=>bB hS ((Below.refl _ _).alloc (Nat.le_refl _) _)) ?_;clear hK K
    (try simp only [zA,zB,zC,Act.put,zD,zE,zF])
    have L8:=LH (OffB.new T0.out #[.int .i64 y.2] 3);have T8:=LH (T0.out.alloc (.cells #[.int .i64 y.2] 3));have N8:=LH (N0.out.alloc (.cells #[.int .i64 y.2] 3));have hs8:Wd.heap.size< (Wd.alloc (.cells #[.int .i64 y.2] 3)).heap.size:=by simp
    generalize Wd.alloc (.cells #[.int .i64 y.2] 3) =W8 at L8 T8 N8 hs8⊢;refine nO (i:=3) (by kernel_rfl) rfl (fun K hK=> ?_);go_simp;refine hK.out _ _ (fun _ hS=>bB hS ((Below.refl _ _).alloc (Nat.le_refl _) _)) ?_;clear hK K
    (try simp only [zA,zB,zC,Act.put,zD,zE,zF])
    have L9:=LH (OffB.new T8.out #[.int .i64 y.1] 3);have T9:=LH (T8.out.alloc (.cells #[.int .i64 y.1] 3));have N9:=LH (N8.out.alloc (.cells #[.int .i64 y.1] 3));have M9:=LH (L8.out.alloc (.cells #[.int .i64 y.1] 3));have hs9:W8.heap.size< (W8.alloc (.cells #[.int .i64 y.1] 3)).heap.size:=by simp
    generalize W8.alloc (.cells #[.int .i64 y.1] 3) =W9 at L9 T9 N9 M9 hs9⊢;refine nO (i:=4) (by kernel_rfl) rfl (fun K hK=> ?_);refine step_app (o:=⟨some 30,_,_,_,_,_⟩) tyZ (by rfl) _ _ (by rfl) encZ B u5 ((r.take q).map (·.1)) (by rfl) T9.out.o1 _ 1 [y.1] _ (by rfl) (sl_one L9.out.h) (by simp only [List.length_map,List.length_take,List.length_append,List.length_cons,List.length_nil];omega) (by simp only [maxLen,List.length_map,List.length_take,List.length_append,List.length_cons,List.length_nil];omega) T9.out.size ?_;intro v10 W10 ho10 hg10 hl10 hb10 hn10;refine hK.out _ _ (fun _ hS=>blk_grown_not hS hg10 N9.out.n1) ?_;clear hK K
    (try simp only [zA,zB,zC,Act.put,zD,zE,zF])
    have T10:=LH (T9.out.app1 hg10 ho10 hl10 hb10);have N10:=LH (N9.out.app1 hg10 hl10);have M10:=LH (M9.out.app1 hg10 hl10);clear ho10 hg10 hl10 hb10 hn10;refine nO (i:=9) (by kernel_rfl) rfl (fun K hK=> ?_);refine step_app (o:=⟨some 35,_,_,_,_,_⟩) tyZ (by rfl) _ _ (by rfl) encZ B u6 ((r.take q).map (·.2)) (by rfl) T10.out.o2 _ 1 [y.2] _ (by rfl) (sl_one M10.out.h) (by simp only [List.length_map,List.length_take,List.length_append,List.length_cons,List.length_nil];omega) (by simp only [maxLen,List.length_map,List.length_take,List.length_append,List.length_cons,List.length_nil];omega) T10.out.size ?_;intro v11 W11 ho11 hg11 hl11 hb11 hn11;refine hK.out _ _ (fun _ hS=>blk_grown_not hS hg11 N10.out.n2) ?_;clear hK K
    (try simp only [zA,zB,zC,Act.put,zD,zE,zF])
    have T11:=LH (T10.out.app2 hg11 ho11 hl11 hb11);have N11:=LH (N10.out.app2 hg11 hl11);clear ho11 hg11 hl11 hb11 hn11;refine nP 10 (v10) (h:= ?_)
    (try simp only [zA,zB,zC,Act.put,zD,zE,zF])
    refine nO (i:=11) (by kernel_rfl) rfl (fun K hK=> ?_);go_simp;refine hK.out _ _ (fun _ _=>N11.out.h) ?_;clear hK K
    (try simp only [zA,zB,zC,Act.put,zD,zE,zF])
    refine nD (by kernel_rfl) ?_ _;refine NoPanic.normal ?_;have HE:=LH T11.out;obtain⟨A1,c1,e1,_⟩:=HE.out.o1.form;obtain⟨A2,c2,e2,_⟩:=HE.out.o2.form;go_wp2_with fail;go_roundw
    case rel=>exact⟨q+1,by omega,by go_num,by rw [HT1.out,HT2.out];exact HE.out⟩
    case measure=>simp [intOf];omega
  ·obtain rfl:q=r.length:=by omega
   rw [List.take_length] at KT;have hTb:Below w3.heap.size w3 wr:=HBe.out ▸ KT.out.b;have X4:=LH (bB X3.out hTb);have X5:=LH (show wr.drew.heap[w1.heap.size]? =_ from X4.out);have D5:=LH ((D3.out.below hTb).below (w':=wr.drew) bE);have B5:=LH ((Below.then_ B3.out hTb).drew);obtain⟨A1,c1,rfl,_⟩:=KT.out.o1.form;obtain⟨A2,c2,rfl,_⟩:=KT.out.o2.form;have O51:=LH (KT.out.o1.drew);have O52:=LH (KT.out.o2.drew);simp only [List.length_map] at O51 O52;have HW:=LH (WireF.of hll HF.out hk.1 hk.2 hn);have hlw:=HW.out.l1;have hlr:=HW.out.l2;have hlc:=HW.out.l3
   have HPt:Hid (∀W n,W.heap.size=n→Calls Tryz.prog 157 #[.slice (some ⟨n,0,none⟩) 2 2] (W.alloc (.cells #[.int .i64 k,.int .i64 (sumR r)] 3)) fun e w'=>e=.returned (.tuple #[.string ⟨(putB [k,sumR r]).toArray⟩,.int .i64 0])∧Below W.heap.size W w'):=LH (fun W n hn=>by
    subst hn;refine(vary_PutC _ _ _ [k,sumR r] (Own.lit W encZ [k,sumR r] 3 (Nat.le_refl _) (by simp [maxLen])) HW.out.hd (by simp)).mono ?_;rintro e w' ⟨he,hb⟩;exact⟨he,((Below.refl W.heap.size W).alloc (Nat.le_refl _) _).trans (hb.mono (by simp))⟩)
   have HRi:=LH (fun W h=>vary_Rises W B (.slice A1 (r.map (·.1)).length c1) (r.map (·.1)) h HW.out.ids (by simp;omega) HW.out.up);have HPc:=LH (fun W h=>vary_PutC W B (.slice A2 (r.map (·.2)).length c2) (r.map (·.2)) h HW.out.cts (by simp;omega));obtain⟨a,ha⟩ : ∃a,a=UInt8.ofNat l:=⟨_,rfl⟩;have hal: (a.toNat:Int) = (l:Int):=by rw [ha,UInt8.toNat_ofNat'];omega
   have hg:=HG.out;unfold wireT at hg;rw [←ha] at hg;obtain⟨P1,hP1⟩ : ∃P1,P1=putB [k,sumR r]:=⟨_,rfl⟩;obtain⟨R1,hR1⟩ : ∃R1,R1=risesB (r.map (·.1)):=⟨_,rfl⟩;obtain⟨C1,hC1⟩ : ∃C1,C1=putB (r.map (·.2)):=⟨_,rfl⟩;rw [←hP1] at HPt hlw hg;rw [←hR1] at HRi hlr hg;rw [←hC1] at HPc hlc hg;have hc1:=fun W=>run_string_add_lists (P:=Tryz.prog) W [68,87,80,1] [a] (by simp) (by simp);obtain⟨U1,hU1⟩ : ∃U1:List UInt8,U1= [68,87,80,1] ++ [a]:=⟨_,rfl⟩;have lU1:U1.length=5:=by rw [hU1];rfl
   rw [←hU1] at hc1 hg;have hc2:=fun W=>run_string_add_lists (P:=Tryz.prog) W U1 P1 (by omega) (by omega);obtain⟨U2,hU2⟩ : ∃U2,U2=U1 ++ P1:=⟨_,rfl⟩;have lU2:U2.length≤23:=by rw [hU2,List.length_append];omega
   rw [←hU2] at hc2 hg;have hc3:=fun W=>run_string_add_lists (P:=Tryz.prog) W U2 R1 (by omega) (by omega);obtain⟨U3,hU3⟩ : ∃U3,U3=U2 ++ R1:=⟨_,rfl⟩;have lU3:U3.length≤32+9*r.length:=by rw [hU3,List.length_append];omega
   rw [←hU3] at hc3 hg;have hc4:=fun W=>run_string_add_lists (P:=Tryz.prog) W U3 C1 (by omega) (by omega);obtain⟨U4,hU4⟩ : ∃U4,U4=U3 ++ C1:=⟨_,rfl⟩;have lU4:U4.length≤8000000:=by rw [hU4,List.length_append];omega
   rw [←hU4] at hc4 hg;have HSe:=LH (fun W=>seal_Seal W U4 lU4);have hcv:=fun W=>back1 W a W.heap.size rfl;rw [hal] at hcv;clear hal;rw [←hg] at HSe;simp only [List.length_map] at HRi HPc;clear hg hP1 hR1 hC1 hU1 hU2 hU3 hU4 lU1 lU2 lU3 lU4 hlw hlr hlc HW ha KT hTb OR hBw X3 D3 B3;go_upto_region 10 with fail;refine wp_region_noPanic ?_;refine wp_region_N (fun w'=>w'.heap[w1.heap.size]? =some (.cells #[.int .i64 l,.int .i64 k,.int .i64 K] 28 (0,0))) [] (by kernel_rfl) (X4.out) (fun hHeld=> ?_);generalize wr.drew=Wd at X5 D5 B5 O51 O52 hHeld⊢;refine nP 0 (Value.pointer (some ⟨w1.heap.size,1,none⟩)) (h:= ?_)
   (try simp only [zA,zB,zC,Act.put,zD,zE,zF])
   refine nT 1 (Value.int .i64 k) (y:=Or.inl ⟨by rfl,fun W hW=>by have q1:=bC hW;have q2:=lB hW;go_simp⟩) (s:=X5.out) (h:= ?_)
   (try simp only [zA,zB,zC,Act.put,zD,zE,zF])
   refine nP 2 (Value.pointer (some ⟨g,0,none⟩)) (h:= ?_)
   (try simp only [zA,zB,zC,Act.put,zD,zE,zF])
   refine nO (i:=3) (by kernel_rfl) rfl (fun K hK=> ?_);go_simp;refine(digest_N _ g _ l k r F D5.out).mono ?_;rintro e w5 ⟨rfl,hb5⟩;have X6:=LH (bB X5.out hb5);have B6:=LH (Below.then_ B5.out hb5);have O61:=LH (O51.out.below hb5);have O62:=LH (O52.out.below hb5);clear hb5;refine hK.out _ _ (fun _ _=>X6.out) ?_;clear hK K
   (try simp only [zA,zB,zC,Act.put,zD,zE,zF])
   refine nO (i:=4) (by kernel_rfl) rfl (fun K hK=> ?_);go_simp;go_simp;refine hK.out _ _ (fun _ hS=>bB hS ((Below.refl _ _).alloc (Nat.le_refl _) _)) ?_;clear hK K
   (try simp only [zA,zB,zC,Act.put,zD,zE,zF])
   refine nO (i:=5) (by kernel_rfl) rfl (fun K hK=> ?_);go_simp;refine(HPt.out w5 _ rfl).mono ?_;rintro e w6 ⟨rfl,hb6⟩;have X7:=LH (bB X6.out hb6);have B7:=LH (Below.then_ B6.out hb6);have O71:=LH (O61.out.below hb6);have O72:=LH (O62.out.below hb6);clear hb6;refine hK.out _ _ (fun _ _=>X7.out) ?_;clear hK K
   (try simp only [zA,zB,zC,Act.put,zD,zE,zF])
   refine nP 6 (Value.tuple #[.string ⟨P1.toArray⟩,.int .i64 0]) (h:= ?_)
   (try simp only [zA,zB,zC,Act.put,zD,zE,zF])
   refine nP 7 (Value.string ⟨P1.toArray⟩) (h:= ?_)
   (try simp only [zA,zB,zC,Act.put,zD,zE,zF])
   refine nP 8 (Value.int .i64 0) (h:= ?_)
   (try simp only [zA,zB,zC,Act.put,zD,zE,zF])
   refine nP 9 (Value.string ⟨P1.toArray⟩) (h:= ?_)
   (try simp only [zA,zB,zC,Act.put,zD,zE,zF])
   refine nO (i:=10) (by kernel_rfl) rfl (fun K hK=> ?_);go_simp;refine hK.out _ _ (fun _ _=>X7.out) ?_;clear hK K
   (try simp only [zA,zB,zC,Act.put,zD,zE,zF])
   refine nD (by kernel_rfl) ?_ _;refine NoPanic.normal ?_;clear O61 O62 O51 O52 X4 X5 X6 B5 B6 D5;go_wp2_with fail;refine(HRi.out _ O71.out).mono ?_;rintro e w8 ⟨rfl,hb8⟩;have X8:=LH (bB X7.out hb8);have B8:=LH (Below.then_ B7.out hb8);have O82:=LH (O72.out.below hb8);clear hb8 X7 B7 O71 O72;go_wp2_with fail;refine(HPc.out _ O82.out).mono ?_;rintro e w9 ⟨rfl,hb9⟩;have X9:=LH (bB X8.out hb9);have B9:=LH (Below.then_ B8.out hb9);have c9:=bC X9.out;have z9:=lB X9.out;clear hb9 X8 B8 O82;go_wp2_with fail;refine(HSe.out _).mono ?_;rintro e wa ⟨rfl,hba⟩
   have Ba:Hid (Below w.heap.size w wa):=LH (by
    have B9:=B9.out;exact Below.then_ bE hba)
   clear hba;go_wp2_with fail;exact bR (v:=.tuple #[.string ⟨G.toArray⟩,.int .i64 0]) (by simp only [results,Tryz.results109];go_simp) rfl ⟨rfl,Ba.out⟩
structure SenOk (s:Sen) :Prop where
 p:rightS s.p=true
 e0:0≤s.ep
 e1:s.ep≤1099511627776
 t0:0≤s.ti
 t1:s.ti≤s.p.wait
 c:rightC s.cover=true
 me:hasC s.cover s.p.me=true
 h:rightC s.heard=true
theorem SenOk.wait {s:Sen} (h:SenOk s) :s.p.wait≤1048576∧1≤s.p.wait∧isCrew s.p.me=true∧rightC s.p.kids=true∧hasC s.p.kids s.p.me=false:=by
 have:=h.p;simp only [rightS,Bool.and_eq_true,decide_eq_true_eq,Bool.not_eq_true'] at this;exact⟨this.2,this.1.2,this.1.1.1.1,this.1.1.1.2,this.1.1.2⟩
theorem SenOk.kids {s:Sen} (h:SenOk s) :s.p.kids<2^64:=by
 have:=h.wait.2.2.2.1;simp only [rightC,decide_eq_true_eq] at this;omega
theorem SenOk.tick {s:Sen} (h:SenOk s) :SenOk (tickedS s):=by
 unfold tickedS
 split
 ·rename_i h1
  have:=h.t0;exact⟨h.p,h.e0,h.e1,by show 0≤s.ti+1;omega,by show s.ti+1≤s.p.wait;omega,h.c,h.me,h.h⟩
 ·exact h
theorem SenOk.toSent {s:Sen} (h:SenOk s) :SenOk (sentS s):=⟨h.p,h.e0,h.e1,h.t0,h.t1,h.c,h.me,h.h⟩
theorem withC_me {i:Int} (h:isCrew i=true) :rightC (withC 0 i) =true∧hasC (withC 0 i) i=true:=by
 obtain⟨n,rfl,hn⟩:=isCrew_nat h;have hp:=pow_crew hn;have h0:hasN 0 n=false:=by unfold hasN;simp
 have e:withC 0 (n:Int) =2^n:=by
  unfold withC;rw [if_pos h,Int.toNat_natCast,if_neg (by simp [h0])];simp
 rw [e];refine⟨by unfold rightC;simp only [decide_eq_true_eq];omega,?_⟩;unfold hasC hasN;rw [h,Int.toNat_natCast,Nat.div_self hp.2]
 rfl
theorem SenOk.new {l k K:Int} {p:Plc} {ep:Int} (h:newS l k K p ep=true) :SenOk (senNew l k K p ep):=by
 simp only [newS,Bool.and_eq_true,decide_eq_true_eq] at h;have hp:=h.1.1.2;simp only [rightS,Bool.and_eq_true,decide_eq_true_eq,Bool.not_eq_true'] at hp;have hm:=withC_me hp.1.1.1.1;exact⟨h.1.1.2,h.1.2,h.2,Int.le_refl _,by show (0:Int)≤p.wait;omega,hm.1,hm.2,rfl⟩
def senL (l:Nat) (s:Sen) (r:List Nd) :Ltr:=⟨s.ep,s.p.me,s.cover,wireT l s.k r⟩
theorem wireT_len {l:Nat} {k:Int} {r:List Nd} (hl:1≤l∧l≤48) (hf:Fits l r) (hk:1≤k) (hk2:k≤1048576) (hn:r.length≤50000) : (wireT l k r).length≤36+18*r.length:=by
 have h:=WireF.of hl hf hk hk2 (by omega);have h1:=h.l1;have h2:=h.l2;have h3:=h.l3;unfold wireT;rw [sealT_len];simp only [List.length_append,List.length_cons,List.length_nil];omega
theorem senL_right {l:Nat} {s:Sen} {r:List Nd} (ho:SenOk s) (hl:1≤l∧l≤48) (hf:Fits l r) (hk:1≤s.k) (hk2:s.k≤1048576) (hn:r.length≤50000) :rightL (senL l s r) =true:=by
 have h1:=wireT_len hl hf hk hk2 hn;have h2:=ho.e0;have h3:=ho.me;have h4:=ho.c;unfold rightL senL;simp only [Bool.and_eq_true,decide_eq_true_eq];exact⟨⟨⟨h2,h3⟩,h4⟩,by omega⟩
def SendPost (g K l:Nat) (s:Sen) (r:List Nd) (F:Nat→Prop) (w:World) (e:Ending) (w':World) :Prop:=
 if s.sent=true then e=.returned (.tuple #[.string ⟨#[]⟩,.int .i64 18])∧Below w.heap.size w w'
 else if readyS s=false then e=.returned (.tuple #[.string ⟨#[]⟩,.int .i64 22])∧Below w.heap.size w w'
 else ∃ps r',RunTo l (sumR r / s.k) r ps r'∧e=.returned (.tuple #[.string ⟨(ltrT (senL l s r')).toArray⟩,.int .i64 0])∧SensTo w g K l (sentS s) r' F w'
theorem sensor_Send (w:World) (g K l:Nat) (s:Sen) (r:List Nd) (F:Nat→Prop) (h:SensAt w g K l s r F) (ho:SenOk s) (hn:r.length≤50000) :
 Calls Tryz.prog 67 #[.pointer (some ⟨g,0,none⟩)] w (SendPost g K l s r F w):=by
 have HOk:=LH ho;have HS:=LH h;obtain⟨dg,F0,hF,h1,h2,h3,h4,h5⟩:=h;have HR:=LH (sensor_Ready w g dg s h1);have HI:=LH h1;have HGD:=LH h4;have HF0:=LH h5;have HX:Hid (∀W r',DigTo w dg K l s.k r' F0 W→SensTo w g K l s r' F W):=LH fun W r' hd=>SensAt.dig hF h1 h2 h3 h5 hd;have HL:=LH h2;have HK:=LH h3;have HFe:=LH hF;have cc:=bC h1;have cf:=bF h1;have zb:=lB h1;have hll:=h4.l_le;have hfit:=h4.fits;have hk:1≤s.k∧s.k≤1048576:=by obtain⟨p,F0,_,_,_,_,h1,h2⟩:=h4.parts;exact⟨h1,h2⟩
 clear h1 h2 h3 h4 h5 hF ho
 have HP:Hid (∀(e:Ending) (W:World),(s.sent=true→e=.returned (.tuple #[.string ⟨#[]⟩,.int .i64 18])∧Below w.heap.size w W)→(s.sent=false→readyS s=false→e=.returned (.tuple #[.string ⟨#[]⟩,.int .i64 22])∧Below w.heap.size w W)→
  (s.sent=false→readyS s=true→∃ps r',RunTo l (sumR r / s.k) r ps r'∧e=.returned (.tuple #[.string ⟨(ltrT (senL l s r')).toArray⟩,.int .i64 0])∧SensTo w g K l (sentS s) r' F W)→SendPost g K l s r F w e W):=LH fun e W a b c=>by
  unfold SendPost;by_cases q1:s.sent=true
  ·rw [if_pos q1];exact a q1
  ·rw [if_neg q1]
   have q1':s.sent=false:=by simpa using q1
   by_cases q2:readyS s=false
   ·rw [if_pos q2];exact b q1' q2
   ·rw [if_neg q2];exact c q1' (by simpa using q2)
 have HNS:Hid (readyS s=true→s.sent=false):=LH fun h=>by
  unfold readyS at h
  cases hs:s.sent
  ·rfl
  ·rw [hs] at h;simp at h
 obtain⟨b,hb⟩ : ∃b,b=s.sent:=⟨_,rfl⟩;rw [←hb] at cc HP;have hbh:=LH hb;clear hb
 cases b
 ·obtain⟨y,hy⟩ : ∃y,y=readyS s:=⟨_,rfl⟩
  rw [←hy] at HR HP;clear hy
  go_enter Tryz.func67,Tryz.ntmps67
  go_wp2_with fail;refine HR.out.mono ?_;rintro e w1 ⟨rfl,hb1⟩;have B1:=LH hb1;clear hb1
  cases y
  ·go_wp2_with fail
   exact bR (v:=.tuple #[.string ⟨#[]⟩,.int .i64 22]) (by simp only [results,Tryz.results67];go_simp) rfl (HP.out _ _ (fun h=>by simp at h) (fun _ _=>⟨rfl,B1.out⟩) (fun _ h=>by simp at h))
  ·have I1:=LH (HI.out.below B1.out)
   have c1:=bC I1.out;have f1:=bF I1.out;have z1:=lB I1.out;clear cc cf zb;go_wp2_with fail;refine(digest_Compress w1 dg K l s.k r F0 (HGD.out.below B1.out) (by omega)).mono ?_;rintro e w2 ⟨ps,r',rfl,hrun,hto⟩;have hto':=DigTo.from B1.out hto;have S2:=LH (HX.out w2 r' hto');have HRun:=LH hrun;have hfit2:=hrun.folded.fits hfit;have hlen2:=hrun.folded.len hfit;obtain⟨F1,hd2,ht2,hg2⟩:=hto';have I2:Hid (SenAt w2 g dg s):=LH (ht2.keep HI.out HF0.out);have D2:=LH hd2;have HRt:=LH (senL_right (r:=r') HOk.out hll hfit2 hk.1 hk.2 (by omega));have hle:=HOk.out.e1;have hle0:=HOk.out.e0
   have hme:i64 s.p.me:=by
    obtain⟨n,hn,h48⟩:=isCrew_nat HOk.out.wait.2.2.1;rw [hn];constructor <;> omega
   have HEn:=LH (fun W=>letter_Encode W (senL l s r') HRt.out (by show i64 s.ep;constructor <;> omega) hme);have HWi:=LH (wire_Encode w2 dg K l s.k r' F1 hd2 (by omega))
   have HPf:Hid (∀W,Below w2.heap.size w2 W→SendPost g K l s r F w (.returned (.tuple #[.string ⟨(ltrT (senL l s r')).toArray⟩,.int .i64 0])) (W.setCell ⟨g,10,none⟩ (.bool true))):=LH fun W hb=>by
    refine HP.out _ _ (fun h=>by simp at h) (fun _ h=>by simp at h) fun _ _=>⟨ps,r',HRun.out,rfl,?_⟩;have hk:=S2.out.then_ hb;obtain⟨F',k1,k2,k3⟩:=hk;obtain⟨dg',F0',e1,e2,e3,e4,e5,e6⟩:=k1;exact⟨F',SensAt.set (s':=sentS s) e1 e2.toSent e2 e3 e4 e5 e6,k2.setCell (.inl HS.out.own) _,k3⟩
   have HEn2:Hid (∀W,Calls Tryz.prog 110 #[.agg #[.int .i64 s.ep,.int .i64 s.p.me,.int .u64 s.cover,.string ⟨(wireT l s.k r').toArray⟩]] W fun e w'=>e=.returned (.tuple #[.string ⟨(ltrT (senL l s r')).toArray⟩,.int .i64 0])∧Below W.heap.size W w'):=HEn;generalize ltrT (senL l s r') =G at HPf HEn2;generalize wireT l s.k r'=T at HWi HEn2;have c2:=bC I2.out;have f2:=bF I2.out;have z2:=lB I2.out;clear hrun hto ht2 hg2 hd2 c1 f1 z1 I1 HR HX HP S2 HRt HEn hfit2 hlen2;go_wp2_with fail;refine HWi.out.mono ?_;rintro e w3 ⟨rfl,hb3⟩;have I3:=LH (I2.out.below hb3);have B3:=LH hb3;clear hb3 c2 f2 z2;go_upto_region 9 with fail;have I3d:Hid (SenAt w3.drew g dg s):=LH I3.out;have B3d:=LH B3.out.drew;refine wp_region_noPanic ?_;refine wp_region_N (fun w'=>SenAt w' g dg s) [] (by kernel_rfl) (I3.out) (fun hHeld=> ?_);generalize w3.drew=Wd at I3d B3d hHeld⊢;refine nP 0 (Value.pointer (some ⟨g,0,none⟩)) (h:= ?_)
   (try simp only [zA,zB,zC,Act.put,zD,zE,zF])
   refine nP 1 (Value.pointer (some ⟨g,0,none⟩)) (h:= ?_)
   (try simp only [zA,zB,zC,Act.put,zD,zE,zF])
   refine nP 4 (Value.pointer (some ⟨g,0,none⟩)) (h:= ?_)
   (try simp only [zA,zB,zC,Act.put,zD,zE,zF])
   refine nP 5 (Value.pointer (some ⟨g,0,none⟩)) (h:= ?_)
   (try simp only [zA,zB,zC,Act.put,zD,zE,zF])
   refine nP 9 (Value.pointer (some ⟨g,0,none⟩)) (h:= ?_)
   (try simp only [zA,zB,zC,Act.put,zD,zE,zF])
   refine nP 10 (Value.pointer (some ⟨g,0,none⟩)) (h:= ?_)
   (try simp only [zA,zB,zC,Act.put,zD,zE,zF])
   refine nP 2 (Value.pointer (some ⟨g,6,none⟩)) (h:= ?_)
   (try simp only [zA,zB,zC,Act.put,zD,zE,zF])
   refine nP 6 (Value.pointer (some ⟨g,3,none⟩)) (h:= ?_)
   (try simp only [zA,zB,zC,Act.put,zD,zE,zF])
   refine nP 7 (Value.pointer (some ⟨g,3,none⟩)) (h:= ?_)
   (try simp only [zA,zB,zC,Act.put,zD,zE,zF])
   refine nP 11 (Value.pointer (some ⟨g,9,none⟩)) (h:= ?_)
   (try simp only [zA,zB,zC,Act.put,zD,zE,zF])
   refine nT 3 (Value.int .i64 s.ep) (y:=Or.inl ⟨by rfl,fun W hW=>by have q1:=bC hW;have q2:=lB hW;go_simp⟩) (s:=I3d.out) (h:= ?_)
   (try simp only [zA,zB,zC,Act.put,zD,zE,zF])
   refine nT 8 (Value.int .i64 s.p.me) (y:=Or.inl ⟨by rfl,fun W hW=>by have q1:=bC hW;have q2:=lB hW;go_simp⟩) (s:=I3d.out) (h:= ?_)
   (try simp only [zA,zB,zC,Act.put,zD,zE,zF])
   refine nT 12 (Value.int .u64 s.cover) (y:=Or.inl ⟨by rfl,fun W hW=>by have q1:=bC hW;have q2:=lB hW;go_simp⟩) (s:=I3d.out) (h:= ?_)
   (try simp only [zA,zB,zC,Act.put,zD,zE,zF])
   refine nP 13 (Value.string ⟨T.toArray⟩) (h:= ?_)
   (try simp only [zA,zB,zC,Act.put,zD,zE,zF])
   refine nP 14 (Value.agg #[.int .i64 s.ep,.int .i64 s.p.me,.int .u64 s.cover,.string ⟨T.toArray⟩]) (h:= ?_)
   (try simp only [zA,zB,zC,Act.put,zD,zE,zF])
   refine nO (i:=15) (by kernel_rfl) rfl (fun K hK=> ?_);go_simp;refine(HEn2.out _).mono ?_;rintro e w4 ⟨rfl,hb4⟩;have I4:=LH (I3d.out.below hb4);have B4:=LH (Below.then_ B3d.out hb4);clear hb4;refine hK.out _ _ (fun _ _=>I4.out) ?_;clear hK K
   (try simp only [zA,zB,zC,Act.put,zD,zE,zF])
   refine nP 16 (Value.tuple #[.string ⟨G.toArray⟩,.int .i64 0]) (h:= ?_)
   (try simp only [zA,zB,zC,Act.put,zD,zE,zF])
   refine nP 17 (Value.string ⟨G.toArray⟩) (h:= ?_)
   (try simp only [zA,zB,zC,Act.put,zD,zE,zF])
   refine nP 18 (Value.int .i64 0) (h:= ?_)
   (try simp only [zA,zB,zC,Act.put,zD,zE,zF])
   refine nP 19 (Value.string ⟨G.toArray⟩) (h:= ?_)
   (try simp only [zA,zB,zC,Act.put,zD,zE,zF])
   refine nO (i:=20) (by kernel_rfl) rfl (fun K hK=> ?_);go_simp;refine hK.out _ _ (fun _ _=>I4.out) ?_;clear hK K
   (try simp only [zA,zB,zC,Act.put,zD,zE,zF])
   refine nD (by kernel_rfl) ?_ _;refine NoPanic.normal ?_;have c4:=bC I4.out;have f4:=bF I4.out;have z4:=lB I4.out;clear I3 B3 I2;go_wp2_with fail;exact bR (v:=.tuple #[.string ⟨G.toArray⟩,.int .i64 0]) (by simp only [results,Tryz.results67];go_simp) rfl (HPf.out _ B4.out)
 ·go_enter Tryz.func67,Tryz.ntmps67
  go_wp2_with fail;exact bR (v:=.tuple #[.string ⟨#[]⟩,.int .i64 18]) (by simp only [results,Tryz.results67];go_simp) rfl (HP.out _ _ (fun _=>⟨rfl,bE⟩) (fun h=>by simp at h) (fun h=>by simp at h))
def SensIn (w:World) (g K l:Nat) (s:Sen) (r:List Nd) (W:World) :Prop:=∃F,SensAt W g K l s r F∧(∀b,F b→w.heap.size≤b)∧Below w.heap.size w W
section
variable {w W W':World} {g K l:Nat} {s s':Sen} {r r':List Nd}
def SendIn (w:World) (g K l:Nat) (s:Sen) (r:List Nd) (e:Ending) (W':World) :Prop:=
 if s.sent=true then e=.returned (.tuple #[.string ⟨#[]⟩,.int .i64 18])∧SensIn w g K l s r W'
 else if readyS s=false then e=.returned (.tuple #[.string ⟨#[]⟩,.int .i64 22])∧SensIn w g K l s r W'
 else ∃ps r',RunTo l (sumR r / s.k) r ps r'∧e=.returned (.tuple #[.string ⟨(ltrT (senL l s r')).toArray⟩,.int .i64 0])∧SensIn w g K l (sentS s) r' W'
end
def NewIn (w:World) (K l:Nat) (s:Sen) (e:Ending) (W':World) :Prop:=∃g,e=.returned (.tuple #[.pointer (some ⟨g,0,none⟩),.int .i64 0])∧SensIn w g K l s [] W'
def exS (n:Nat) :Sen:=⟨3,2,2,⟨0,2,5⟩,0,n,0,1,false⟩
def refC (s:Sen) (A:Option Addr) (n c:Nat) :Array Value:= #[.int .i64 s.l,.int .i64 s.k,.int .i64 s.kd,.int .i64 s.p.me,.int .i64 s.p.wait,.int .u64 s.p.kids,.int .i64 s.ep,.int .i64 s.ti,.int .u64 s.heard,.int .u64 s.cover,.bool s.sent,.int .i64 s.k,.int .i64 s.l,.slice A n c]
def refV (s:Sen) (A:Option Addr) (n c:Nat) :Value:=.agg (refC s A n c)

def encU:Enc Nat 1:=⟨fun x=> [.int .u64 (x:Int)],fun _=>rfl,by intro x u hu;simp at hu;subst hu;rfl⟩
def MorePost (K l:Nat) (k:Int) (r:List Nd) (m: (Nat×Int×Int×List Nd)×Int) (w:World) (e:Ending) (w':World) :Prop:=
 (moreE l k r m≠0∧e=.returned (.tuple #[.pointer none,.int .i64 (moreE l k r m)])∧Below w.heap.size w w')∨(moreE l k r m=0∧MergePost l K k r m.1.2.2.2 w e w')
abbrev q12 (W:World) (b:Nat) (v0 v1 v2 v3 v4 v5 v6 v7 v8 v9 v10 v11:Value) :World:=((((((((((((W.setCell ⟨b,0,none⟩ v0).setCell ⟨b,1,none⟩ v1).setCell ⟨b,2,none⟩ v2).setCell ⟨b,3,none⟩ v3).setCell ⟨b,4,none⟩ v4).setCell ⟨b,5,none⟩ v5).setCell ⟨b,6,none⟩ v6).setCell ⟨b,7,none⟩ v7).setCell ⟨b,8,none⟩ v8).setCell ⟨b,9,none⟩ v9).setCell ⟨b,10,none⟩ v10).setCell ⟨b,11,none⟩ v11)
theorem q12e (W:World) (b:Nat) (v0 v1 v2 v3 v4 v5 v6 v7 v8 v9 v10 v11:Value) : ((((((((((((W.setCell ⟨b,0,none⟩ v0).setCell ⟨b,1,none⟩ v1).setCell ⟨b,2,none⟩ v2).setCell ⟨b,3,none⟩ v3).setCell ⟨b,4,none⟩ v4).setCell ⟨b,5,none⟩ v5).setCell ⟨b,6,none⟩ v6).setCell ⟨b,7,none⟩ v7).setCell ⟨b,8,none⟩ v8).setCell ⟨b,9,none⟩ v9).setCell ⟨b,10,none⟩ v10).setCell ⟨b,11,none⟩ v11) =q12 W b v0 v1 v2 v3 v4 v5 v6 v7 v8 v9 v10 v11:=rfl
theorem store12 {W:World} {b t:Nat} {z0 z1 z2 z3 z4 z5 z6 z7 z8 z9 z10 z11:Value} (h:W.heap[b]? =some (.cells #[z0,z1,z2,z3,z4,z5,z6,z7,z8,z9,z10,z11] t (0,0))) (v0 v1 v2 v3 v4 v5 v6 v7 v8 v9 v10 v11:Value) : (q12 W b v0 v1 v2 v3 v4 v5 v6 v7 v8 v9 v10 v11).heap[b]? =some (.cells #[v0,v1,v2,v3,v4,v5,v6,v7,v8,v9,v10,v11] t (0,0)):=by
 have h0: (W.setCell ⟨b,0,none⟩ v0).heap[b]? =some (.cells #[v0,z1,z2,z3,z4,z5,z6,z7,z8,z9,z10,z11] t (0,0)):=zH (i:=0) h v0;have h1: ((W.setCell ⟨b,0,none⟩ v0).setCell ⟨b,1,none⟩ v1).heap[b]? =some (.cells #[v0,v1,z2,z3,z4,z5,z6,z7,z8,z9,z10,z11] t (0,0)):=zH (i:=1) h0 v1;have h2: (((W.setCell ⟨b,0,none⟩ v0).setCell ⟨b,1,none⟩ v1).setCell ⟨b,2,none⟩ v2).heap[b]? =some (.cells #[v0,v1,v2,z3,z4,z5,z6,z7,z8,z9,z10,z11] t (0,0)):=zH (i:=2) h1 v2;have h3: ((((W.setCell ⟨b,0,none⟩ v0).setCell ⟨b,1,none⟩ v1).setCell ⟨b,2,none⟩ v2).setCell ⟨b,3,none⟩ v3).heap[b]? =some (.cells #[v0,v1,v2,v3,z4,z5,z6,z7,z8,z9,z10,z11] t (0,0)):=zH (i:=3) h2 v3;have h4: (((((W.setCell ⟨b,0,none⟩ v0).setCell ⟨b,1,none⟩ v1).setCell ⟨b,2,none⟩ v2).setCell ⟨b,3,none⟩ v3).setCell ⟨b,4,none⟩ v4).heap[b]? =some (.cells #[v0,v1,v2,v3,v4,z5,z6,z7,z8,z9,z10,z11] t (0,0)):=zH (i:=4) h3 v4;have h5: ((((((W.setCell ⟨b,0,none⟩ v0).setCell ⟨b,1,none⟩ v1).setCell ⟨b,2,none⟩ v2).setCell ⟨b,3,none⟩ v3).setCell ⟨b,4,none⟩ v4).setCell ⟨b,5,none⟩ v5).heap[b]? =some (.cells #[v0,v1,v2,v3,v4,v5,z6,z7,z8,z9,z10,z11] t (0,0)):=zH (i:=5) h4 v5;have h6: (((((((W.setCell ⟨b,0,none⟩ v0).setCell ⟨b,1,none⟩ v1).setCell ⟨b,2,none⟩ v2).setCell ⟨b,3,none⟩ v3).setCell ⟨b,4,none⟩ v4).setCell ⟨b,5,none⟩ v5).setCell ⟨b,6,none⟩ v6).heap[b]? =some (.cells #[v0,v1,v2,v3,v4,v5,v6,z7,z8,z9,z10,z11] t (0,0)):=zH (i:=6) h5 v6;have h7: ((((((((W.setCell ⟨b,0,none⟩ v0).setCell ⟨b,1,none⟩ v1).setCell ⟨b,2,none⟩ v2).setCell ⟨b,3,none⟩ v3).setCell ⟨b,4,none⟩ v4).setCell ⟨b,5,none⟩ v5).setCell ⟨b,6,none⟩ v6).setCell ⟨b,7,none⟩ v7).heap[b]? =some (.cells #[v0,v1,v2,v3,v4,v5,v6,v7,z8,z9,z10,z11] t (0,0)):=zH (i:=7) h6 v7;have h8: (((((((((W.setCell ⟨b,0,none⟩ v0).setCell ⟨b,1,none⟩ v1).setCell ⟨b,2,none⟩ v2).setCell ⟨b,3,none⟩ v3).setCell ⟨b,4,none⟩ v4).setCell ⟨b,5,none⟩ v5).setCell ⟨b,6,none⟩ v6).setCell ⟨b,7,none⟩ v7).setCell ⟨b,8,none⟩ v8).heap[b]? =some (.cells #[v0,v1,v2,v3,v4,v5,v6,v7,v8,z9,z10,z11] t (0,0)):=zH (i:=8) h7 v8;have h9: ((((((((((W.setCell ⟨b,0,none⟩ v0).setCell ⟨b,1,none⟩ v1).setCell ⟨b,2,none⟩ v2).setCell ⟨b,3,none⟩ v3).setCell ⟨b,4,none⟩ v4).setCell ⟨b,5,none⟩ v5).setCell ⟨b,6,none⟩ v6).setCell ⟨b,7,none⟩ v7).setCell ⟨b,8,none⟩ v8).setCell ⟨b,9,none⟩ v9).heap[b]? =some (.cells #[v0,v1,v2,v3,v4,v5,v6,v7,v8,v9,z10,z11] t (0,0)):=zH (i:=9) h8 v9;have h10: (((((((((((W.setCell ⟨b,0,none⟩ v0).setCell ⟨b,1,none⟩ v1).setCell ⟨b,2,none⟩ v2).setCell ⟨b,3,none⟩ v3).setCell ⟨b,4,none⟩ v4).setCell ⟨b,5,none⟩ v5).setCell ⟨b,6,none⟩ v6).setCell ⟨b,7,none⟩ v7).setCell ⟨b,8,none⟩ v8).setCell ⟨b,9,none⟩ v9).setCell ⟨b,10,none⟩ v10).heap[b]? =some (.cells #[v0,v1,v2,v3,v4,v5,v6,v7,v8,v9,v10,z11] t (0,0)):=zH (i:=10) h9 v10;have h11: ((((((((((((W.setCell ⟨b,0,none⟩ v0).setCell ⟨b,1,none⟩ v1).setCell ⟨b,2,none⟩ v2).setCell ⟨b,3,none⟩ v3).setCell ⟨b,4,none⟩ v4).setCell ⟨b,5,none⟩ v5).setCell ⟨b,6,none⟩ v6).setCell ⟨b,7,none⟩ v7).setCell ⟨b,8,none⟩ v8).setCell ⟨b,9,none⟩ v9).setCell ⟨b,10,none⟩ v10).setCell ⟨b,11,none⟩ v11).heap[b]? =some (.cells #[v0,v1,v2,v3,v4,v5,v6,v7,v8,v9,v10,v11] t (0,0)):=zH (i:=11) h10 v11;exact h11
theorem store12_other {W:World} {b q:Nat} (h:q≠b) (v0 v1 v2 v3 v4 v5 v6 v7 v8 v9 v10 v11:Value) : (q12 W b v0 v1 v2 v3 v4 v5 v6 v7 v8 v9 v10 v11).heap[q]? =W.heap[q]? :=
 (Below.heap_setCell _ _ _ _ h).trans ((Below.heap_setCell _ _ _ _ h).trans ((Below.heap_setCell _ _ _ _ h).trans ((Below.heap_setCell _ _ _ _ h).trans ((Below.heap_setCell _ _ _ _ h).trans ((Below.heap_setCell _ _ _ _ h).trans ((Below.heap_setCell _ _ _ _ h).trans ((Below.heap_setCell _ _ _ _ h).trans ((Below.heap_setCell _ _ _ _ h).trans ((Below.heap_setCell _ _ _ _ h).trans ((Below.heap_setCell _ _ _ _ h).trans ((Below.heap_setCell _ _ _ _ h).trans (rfl))))))))))))
theorem store12_turn {F:Nat→Prop} {w W:World} {b:Nat} (h:Turn F w W) (hb:F b) (v0 v1 v2 v3 v4 v5 v6 v7 v8 v9 v10 v11:Value) :Turn F w (q12 W b v0 v1 v2 v3 v4 v5 v6 v7 v8 v9 v10 v11):=by
 have h0:=h.setCell (p:=⟨b,0,none⟩) (.inl hb) v0;have h1:=h0.setCell (p:=⟨b,1,none⟩) (.inl hb) v1;have h2:=h1.setCell (p:=⟨b,2,none⟩) (.inl hb) v2;have h3:=h2.setCell (p:=⟨b,3,none⟩) (.inl hb) v3;have h4:=h3.setCell (p:=⟨b,4,none⟩) (.inl hb) v4;have h5:=h4.setCell (p:=⟨b,5,none⟩) (.inl hb) v5;have h6:=h5.setCell (p:=⟨b,6,none⟩) (.inl hb) v6;have h7:=h6.setCell (p:=⟨b,7,none⟩) (.inl hb) v7;have h8:=h7.setCell (p:=⟨b,8,none⟩) (.inl hb) v8;have h9:=h8.setCell (p:=⟨b,9,none⟩) (.inl hb) v9;have h10:=h9.setCell (p:=⟨b,10,none⟩) (.inl hb) v10;have h11:=h10.setCell (p:=⟨b,11,none⟩) (.inl hb) v11;exact h11
def NextTo (w:World) (g K l:Nat) (s:Sen) (F:Nat→Prop) (e:Ending) (w':World) :Prop:=
 (s.ep=1099511627776∧e=.returned (.int .i64 21)∧Below w.heap.size w w')∨(s.ep≠1099511627776∧e=.returned (.int .i64 0)∧SensTo w g K l (senNew s.l s.k s.kd s.p (s.ep+1)) [] F w')
theorem sensor_Next (w:World) (g K l:Nat) (s:Sen) (r:List Nd) (F:Nat→Prop) (h:SensAt w g K l s r F) (ho:SenOk s) :
 Calls Tryz.prog 64 #[.pointer (some ⟨g,0,none⟩)] w (NextTo w g K l s F):=by
 obtain⟨dg,F0,hF,hS,hsl,hkd,hD,hng⟩:=h;have hk:1≤s.k∧s.k≤1048576:=by obtain⟨p,F0,_,_,_,_,h1,h2⟩:=hD.parts;exact⟨h1,h2⟩
 have HIs:=LH (dig_is hD hk.1 (Int.le_refl _));have hkids:=ho.kids;have e0:=ho.e0;have e1:=ho.e1;have HOp:=LH ho.p;have HFg:=LH (show F g by rw [hF];exact .inl rfl);have S0:=LH hS;clear hF hS hD hng hk ho;unfold SenAt at S0;obtain⟨sl,sk,sK,⟨me,kids,wait⟩,ep,ti,hd,cv,st⟩:=s;dsimp only at*;obtain rfl:=hsl;obtain rfl:=hkd;have hgw:=lB S0.out;have HP:Hid (∀e w',NextTo w g K l ⟨l,sk,K,⟨me,kids,wait⟩,ep,ti,hd,cv,st⟩ F e w'→NextTo w g K l ⟨l,sk,K,⟨me,kids,wait⟩,ep,ti,hd,cv,st⟩ F e w'):=LH fun _ _ h=>h
 have HNw:=LH (fun W (hq:ep≠1099511627776)=>sensor_New W l K sk ⟨me,kids,wait⟩ (ep+1) hkids (by
  unfold newS;rw [HIs.out,HOp.out];simp
  omega))
 unfold SenPost confV plcV at HNw;dsimp only at HNw
 go_enter Tryz.func64,Tryz.ntmps64
 have cg:=bC S0.out;go_upto_region 3 with fail;by_cases hq:ep=1099511627776
 ·have hqi: (ep == 1099511627776) =true:=by simpa using hq
  have HQ:=LH hq;clear hq;go_wp2_with fail;exact bR (v:=.int .i64 21) (by simp only [results,Tryz.results64];go_simp) rfl (HP.out _ _ (.inl ⟨HQ.out,rfl,Below.refl _ _⟩))
 ·have hqi: (ep == 1099511627776) =false:=by simpa using hq
  have HQ:=LH hq;have HN2:=LH (fun W=>HNw.out W hq);clear hq HNw;have hw:wrap64 (ep+1) =ep+1:=by unfold wrap64;omega
  have hwi:IntKind.i64.wrap (ep+1) =ep+1:=by rw [IntKind.wrap_i64];omega
  go_upto_region 5 with fail;refine wp_region_noPanic ?_;refine wp_region_N (fun W=>Below w.heap.size w W) [] (by kernel_rfl) (Below.drew (Below.refl _ _)) (fun hHeld=> ?_);clear hHeld;have BW:=LH (Below.drew (Below.refl w.heap.size w));generalize w.drew=w1 at BW⊢;refine nP 0 (Value.pointer (some ⟨g,0,none⟩)) (h:= ?_)
  (try simp only [zA,zB,zC,Act.put,zD,zE,zF])
  refine nP 1 (Value.pointer (some ⟨g,0,none⟩)) (h:= ?_)
  (try simp only [zA,zB,zC,Act.put,zD,zE,zF])
  refine nP 2 (Value.pointer (some ⟨g,0,none⟩)) (h:= ?_)
  (try simp only [zA,zB,zC,Act.put,zD,zE,zF])
  refine nT 3 (Value.agg #[.int .i64 l,.int .i64 sk,.int .i64 K]) (y:=Or.inl ⟨by rfl,fun W hW=>by have q1:=bC (bB S0.out hW);have q2:=lB (bB S0.out hW);go_simp⟩) (s:=BW.out) (h:= ?_)
  (try simp only [zA,zB,zC,Act.put,zD,zE,zF])
  refine nP 4 (Value.pointer (some ⟨g,0,none⟩)) (h:= ?_)
  (try simp only [zA,zB,zC,Act.put,zD,zE,zF])
  refine nP 5 (Value.pointer (some ⟨g,0,none⟩)) (h:= ?_)
  (try simp only [zA,zB,zC,Act.put,zD,zE,zF])
  refine nP 6 (Value.pointer (some ⟨g,3,none⟩)) (h:= ?_)
  (try simp only [zA,zB,zC,Act.put,zD,zE,zF])
  refine nT 7 (Value.agg #[.int .i64 me,.int .u64 kids,.int .i64 wait]) (y:=Or.inl ⟨by rfl,fun W hW=>by have q1:=bC (bB S0.out hW);have q2:=lB (bB S0.out hW);go_simp⟩) (s:=BW.out) (h:= ?_)
  (try simp only [zA,zB,zC,Act.put,zD,zE,zF])
  refine nP 8 (Value.pointer (some ⟨g,0,none⟩)) (h:= ?_)
  (try simp only [zA,zB,zC,Act.put,zD,zE,zF])
  refine nP 9 (Value.pointer (some ⟨g,0,none⟩)) (h:= ?_)
  (try simp only [zA,zB,zC,Act.put,zD,zE,zF])
  refine nP 10 (Value.pointer (some ⟨g,6,none⟩)) (h:= ?_)
  (try simp only [zA,zB,zC,Act.put,zD,zE,zF])
  refine nT 11 (Value.int .i64 ep) (y:=Or.inl ⟨by rfl,fun W hW=>by have q1:=bC (bB S0.out hW);have q2:=lB (bB S0.out hW);go_simp⟩) (s:=BW.out) (h:= ?_)
  (try simp only [zA,zB,zC,Act.put,zD,zE,zF])
  refine nP 12 (Value.int .i64 (ep+1)) (h:= ?_)
  (try simp only [zA,zB,zC,Act.put,zD,zE,zF])
  refine nO (i:=13) (by kernel_rfl) rfl (fun K hK=> ?_);go_simp;refine(HN2.out _).mono ?_;rintro e w2 ⟨g2,F2,rfl,hs2,hn2,hb2⟩;refine hK.out _ _ (fun _ _=>Below.then_ BW.out hb2) ?_;clear hK K
  (try simp only [zA,zB,zC,Act.put,zD,zE,zF])
  refine nP 14 (Value.tuple #[Value.pointer (some ⟨g2,0,none⟩),.int .i64 0]) (h:= ?_)
  (try simp only [zA,zB,zC,Act.put,zD,zE,zF])
  refine nP 15 (Value.pointer (some ⟨g2,0,none⟩)) (h:= ?_)
  (try simp only [zA,zB,zC,Act.put,zD,zE,zF])
  refine nP 16 (Value.int .i64 0) (h:= ?_)
  (try simp only [zA,zB,zC,Act.put,zD,zE,zF])
  refine nP 17 (Value.pointer (some ⟨g2,0,none⟩)) (h:= ?_)
  (try simp only [zA,zB,zC,Act.put,zD,zE,zF])
  refine nO (i:=18) (by kernel_rfl) rfl (fun K hK=> ?_);go_simp;refine hK.out _ _ (fun _ _=>Below.then_ BW.out hb2) ?_;clear hK K
  (try simp only [zA,zB,zC,Act.put,zD,zE,zF])
  refine nD (by kernel_rfl) ?_ _;refine NoPanic.normal ?_;obtain⟨dg2,F20,hF2,hS2,hl2,hkd2,hD2,hng2⟩:=hs2;have BW2:=LH (Below.then_ BW.out hb2);have hgg:g≠g2:=fun hh=>by have:=hn2 g2 (by rw [hF2];exact .inl rfl);have:=BW.out.size;omega
  have S2:=LH hS2;unfold SenAt senNew at S2;dsimp only at S2;have HF2:=LH hF2;have HN2b:=LH hn2;have HDd:=LH hD2;have HNg:=LH hng2;have HL2:=LH hl2;have HK2:=LH hkd2;clear hF2 hn2 hS2 hD2 hng2 hl2 hkd2 hb2 hw hwi;go_upto_region 8 with fail;have cg:=bC (bB S0.out BW2.out);have zg:=lB (bB S0.out BW2.out);have cf:=bF (bB S0.out BW2.out);have c2:=bC S2.out;have z2:=lB S2.out;go_wp2_with fail;have hgF: ∀b,F20 b→w.heap.size≤b:=fun b hb=>Nat.le_trans BW.out.size (HN2b.out b (by rw [HF2.out];exact .inr hb));have hT:=LH (store12_turn (b:=g) (Turn.of_below (F:=F) BW2.out) HFg.out (.int .i64 l) (.int .i64 sk) (.int .i64 K) (.int .i64 me) (.int .u64 kids) (.int .i64 wait) (.int .i64 (ep+1)) (.int .i64 0) (.int .u64 0) (.int .u64 (withC 0 me:Nat)) (.bool false) (.pointer (some ⟨dg2,0,none⟩)));have hA:=LH (store12 (bB S0.out BW2.out) (.int .i64 l) (.int .i64 sk) (.int .i64 K) (.int .i64 me) (.int .u64 kids) (.int .i64 wait) (.int .i64 (ep+1)) (.int .i64 0) (.int .u64 0) (.int .u64 (withC 0 me:Nat)) (.bool false) (.pointer (some ⟨dg2,0,none⟩)));have hDk:=LH (HDd.out.keep (fun b hb=>store12_other (W:=w2) (b:=g) (q:=b) (by have:=hgF b hb;omega) (.int .i64 l) (.int .i64 sk) (.int .i64 K) (.int .i64 me) (.int .u64 kids) (.int .i64 wait) (.int .i64 (ep+1)) (.int .i64 0) (.int .u64 0) (.int .u64 (withC 0 me:Nat)) (.bool false) (.pointer (some ⟨dg2,0,none⟩))));exact bR (v:=.int .i64 0) (by simp only [results,Tryz.results64];go_simp) rfl (HP.out _ _ (.inr ⟨HQ.out,rfl,footP g F20,⟨dg2,F20,rfl,hA.out,rfl,rfl,hDk.out,fun hb=>by have:=hgF g hb;omega⟩,hT.out,fun b hb=>by rcases hb with rfl|hb;exact .inl HFg.out;exact .inr (hgF b hb)⟩))
def LtrB (W:World) (px:Nat) (x:Ltr) :Prop:=W.heap[px]? =some (.cells #[.int .i64 x.e,.int .i64 x.f,.int .u64 x.c,.string ⟨x.b.toArray⟩] 190 (0,0))
def Hear2Post (K l:Nat) (k:Int) (r:List Nd) (m: (Nat×Int×Int×List Nd)×Int) (pd pe:Nat) (W:World) (e:Ending) (w':World) :Prop:=
 e=.returned (.tuple #[])∧((moreE l k r m≠0∧∃W1,Below W.heap.size W W1∧w'= (W1.setCell ⟨pd,0,none⟩ (.pointer none)).setCell ⟨pe,0,none⟩ (.int .i64 (moreE l k r m)))∨
  (moreE l k r m=0∧∃W1 gd Fd rc,DigAt W1 gd K l k rc Fd∧(∀b,Fd b→W.heap.size≤b)∧Joined l k r m.1.2.2.2 rc∧Below W.heap.size W W1∧w'= (W1.setCell ⟨pd,0,none⟩ (.pointer (some ⟨gd,0,none⟩))).setCell ⟨pe,0,none⟩ (.int .i64 0)))

def Put31Post [Zone] (l:Nat) (s:Sen) (r:List Nd) (x c:Int) (w:World) (e:Ending) (w':World) :Prop:=
 ∃(r':List Nd) (A':Option Addr) (c':Nat),e=.returned (.tuple #[refV s A' r'.length c',.int .i64 (putErr l s r x c)])∧PutTo l s r x c r'∧SlZ w' 172 encN A' r'∧Below w.heap.size w w'
def Low14Post [Zone] (l:Nat) (k2:Int) (r:List Nd) (w:World) (e:Ending) (w':World) :Prop:=
 ∃(ps:List Int) (s:List Nd) (A:Option Addr) (c:Nat),e=.returned (.tuple #[.agg #[.int .i64 k2,.int .i64 l,.slice A s.length c],.int .i64 0])∧RunTo l (sumR r / k2) r ps s∧SlZ w' 172 encN A s∧Below w.heap.size w w'
def Mrg14Post [Zone] (l:Nat) (k2:Int) (ra rb:List Nd) (w:World) (e:Ending) (w':World) :Prop:=
 ∃(rc:List Nd) (A:Option Addr) (c:Nat),e=.returned (.tuple #[.agg #[.int .i64 k2,.int .i64 l,.slice A rc.length c],.int .i64 0])∧Joined l k2 ra rb rc∧SlZ w' 172 encN A rc∧Below w.heap.size w w'
theorem run_low_len {l:Nat} {most:Int} {r s:List Nd} {ps:List Int} (hf:Fits l r) (h:RunTo l most r ps s) :Fits l s∧s.length≤r.length∧sumR s=sumR r:=⟨h.folded.fits hf,h.folded.len hf,h.folded.sum hf⟩
def nextS (s:Sen) :Sen:=if s.ep=1099511627776 then s else senNew s.l s.k s.kd s.p (s.ep+1)
def nextE (s:Sen) :Int:=if s.ep=1099511627776 then 21 else 0
def Next31Post (s:Sen) (A:Option Addr) (n c:Nat) (w:World) (e:Ending) (w':World) :Prop:=
 ((s.ep=1099511627776∧e=.returned (.tuple #[refV s A n c,.int .i64 21]))∨(s.ep≠1099511627776∧e=.returned (.tuple #[refV (senNew s.l s.k s.kd s.p (s.ep+1)) none 0 0,.int .i64 0])))∧Below w.heap.size w w'
def Send31Post [Zone] (l:Nat) (s:Sen) (r:List Nd) (w:World) (e:Ending) (w':World) :Prop:=
 (s.sent=true∧(∃A c,e=.returned (.tuple #[refV s A r.length c,.string ⟨#[]⟩,.int .i64 18])∧SlZ w' 172 encN A r)∧Below w.heap.size w w')∨
 (s.sent=false∧readyS s=false∧(∃A c,e=.returned (.tuple #[refV s A r.length c,.string ⟨#[]⟩,.int .i64 22])∧SlZ w' 172 encN A r)∧Below w.heap.size w w')∨
 (s.sent=false∧readyS s=true∧(∃ps r' A c,RunTo l (sumR r / s.k) r ps r'∧e=.returned (.tuple #[refV (sentS s) A r'.length c,.string ⟨(ltrT (senL l s r')).toArray⟩,.int .i64 0])∧SlZ w' 172 encN A r')∧Below w.heap.size w w')
def Hear31Post [Zone] (l:Nat) (s:Sen) (r:List Nd) (text:List UInt8) (w:World) (e:Ending) (w':World) :Prop:=
 ∃(s':Sen) (r':List Nd) (A':Option Addr) (c':Nat),e=.returned (.tuple #[refV s' A' r'.length c',.int .i64 (hearE l s r text)])∧HearTo l s r text s' r'∧SlZ w' 172 encN A' r'∧Below w.heap.size w w'
structure HerS (w:World) (g K l:Nat) (s:Sen) (r:List Nd) (F:Nat→Prop) (pt px pe pd:Nat) (x:Ltr) (E:Int) (V:Option Addr) (W:World) :Prop where
 t:W.heap[pt]? =some (.cells #[.pointer (some ⟨g,0,none⟩)] 97 (0,0))
 x:LtrB W px x
 e:W.heap[pe]? =some (.cells #[.int .i64 E] 23 (0,0))
 d:W.heap[pd]? =some (.cells #[.pointer V] 35 (0,0))
 sen:SensAt W g K l s r F
 lt: ∀b,F b→b<w.heap.size
 b:Below w.heap.size w W
 h0:w.heap.size≤pt
 h1:pt<px
 h2:px<pe
 h3:pe<pd
section
variable {w W W':World} {g K l:Nat} {s:Sen} {r:List Nd} {F:Nat→Prop} {pt px pe pd:Nat} {x:Ltr} {E E2:Int} {V V2:Option Addr}
end
def HerD (w:World) (K l:Nat) (k:Int) (r rb:List Nd) (pt px pe pd:Nat) (V:Option Addr) (W:World) :Prop:=∃gd Fd rc,V=some ⟨gd,0,none⟩∧DigAt W gd K l k rc Fd∧(∀b,Fd b→w.heap.size≤b∧b≠pt∧b≠px∧b≠pe∧b≠pd)∧Joined l k r rb rc
def HerR (w:World) (g K l:Nat) (s:Sen) (r:List Nd) (F:Nat→Prop) (pt px pe pd:Nat) (x:Ltr) (rb:List Nd) (e1 e2 e3:Int) (q:Nat) (W:World) :Prop:=
 (q=0∧HerS w g K l s r F pt px pe pd x e1 none W)∨(q=1∧HerS w g K l s r F pt px pe pd x e2 none W)∨(q=2∧∃V,HerS w g K l s r F pt px pe pd x e3 V W∧(e3=0→HerD w K l s.k r rb pt px pe pd V W))
structure HerF (w:World) (g gd K l:Nat) (s:Sen) (hd cv:Nat) (rc:List Nd) (F Fd:Nat→Prop) (pt px:Nat) (x:Ltr) (W:World) :Prop where
 t:W.heap[pt]? =some (.cells #[.pointer (some ⟨g,0,none⟩)] 97 (0,0))
 xx:LtrB W px x
 sn:SenAt W g gd {s with heard:=hd,cover:=cv}
 d:DigAt W gd K l s.k rc Fd
 T:Turn F w W
 hg:F g
 hw:g<w.heap.size
 h1:w.heap.size≤pt
 h2:w.heap.size≤px
 h3: ∀b,Fd b→w.heap.size≤b
section
variable {w W W':World} {g gd K l:Nat} {s:Sen} {hd cv:Nat} {rc:List Nd} {F Fd:Nat→Prop} {pt px:Nat} {x:Ltr}
end
def natZ (l:List Nat) :List Int:=l.map Int.ofNat
theorem getG_at {ps:List Int} {i:Nat} (h:i<ps.length) :ps.getD i 0=ps[i]:=by rw [List.getD_eq_getElem?_getD,List.getElem?_eq_getElem h];rfl
inductive IsWay (ps:List Int) :Nat→List Nat→Prop
 |root {i:Nat} :ps[i]? =some (-1)→IsWay ps i [i]
 |up {i p:Nat} {l:List Nat} :ps[i]? =some (p:Int)→IsWay ps p l→IsWay ps i (i :: l)
theorem IsWay.unique {ps:List Int} {i:Nat} {l m:List Nat} (h:IsWay ps i l) (h':IsWay ps i m) :l=m:=by
 induction h generalizing m with
 |root e=>
  cases h' with
  |root _=>rfl
  |up e' _=>rw [e] at e';have:=Option.some.inj e';omega
 |up e _ ih=>
  cases h' with
  |root e'=>rw [e] at e';have:=Option.some.inj e';omega
  |up e' h2=>
   rw [e] at e';have:=Option.some.inj e';obtain rfl:=Int.ofNat_inj.1 this;rw [ih h2]
theorem IsWay.head {ps:List Int} {i:Nat} {l:List Nat} (h:IsWay ps i l) : ∃t,l=i :: t:=by cases h with
 |root _=>exact⟨_,rfl⟩
 |up _ _=>exact⟨_,rfl⟩
theorem IsWay.mem {ps:List Int} {i:Nat} {l:List Nat} (h:IsWay ps i l) :i∈l:=by
 obtain⟨t,rfl⟩:=h.head;simp
theorem IsWay.lt {ps:List Int} {i:Nat} {l:List Nat} (h:IsWay ps i l) :i<ps.length:=by
 cases h with
 |root e=>exact(List.getElem?_eq_some_iff.1 e).1
 |up e _=>exact(List.getElem?_eq_some_iff.1 e).1
theorem IsWay.suffix {ps:List Int} {x i:Nat} {l:List Nat} (h:IsWay ps x l) (hi:i∈l) : ∃m,IsWay ps i m∧m <:+ l:=by
 induction h with
 |root e=>
  rw [List.mem_singleton] at hi;subst hi;exact⟨_,.root e,List.suffix_refl _⟩
 |up e h2 ih=>
  rcases List.mem_cons.1 hi with rfl|hi
  ·exact⟨_,.up e h2,List.suffix_refl _⟩
  ·obtain⟨m,h3,h4⟩:=ih hi
   exact⟨m,h3,h4.trans (List.suffix_cons _ _)⟩
theorem IsWay.sub {ps:List Int} {x i:Nat} {l m:List Nat} (h:IsWay ps x l) (hi:i∈l) (h':IsWay ps i m) :m <:+ l:=by
 obtain⟨m',h2,h3⟩:=h.suffix hi
 rwa [h'.unique h2]
theorem IsWay.not_below {ps:List Int} {i k:Nat} {l:List Nat} (h:IsWay ps i l) (hk:ps[k]? =some (i:Int)) :k∉l:=fun hm=>by
 have:=(h.sub hm (.up hk h)).length_le;simp at this
 omega
def kidsN (ps:List Int) (i:Nat) :List Nat:=(List.range ps.length).filter fun k=>decide (ps[k]? =some (i:Int))
theorem mem_kids {ps:List Int} {i k:Nat} :k∈kidsN ps i↔ps[k]? =some (i:Int):=by
 unfold kidsN;rw [List.mem_filter,List.mem_range,decide_eq_true_eq];exact⟨fun h=>h.2,fun h=>⟨(List.getElem?_eq_some_iff.1 h).1,h⟩⟩
theorem kids_nodup (ps:List Int) (i:Nat) : (kidsN ps i).Nodup:=List.nodup_range.filter _
def downF (ps:List Int) :Nat→Nat→List Nat
 |0,i=> [i]
 |m+1,i=>(kidsN ps i).flatMap (downF ps m) ++ [i]
theorem IsWay.kid {ps:List Int} {x i:Nat} {l:List Nat} (h:IsWay ps x l) (hi:i∈l) :x=i∨∃k∈kidsN ps i,k∈l:=by
 induction h with
 |root e=>exact .inl (List.mem_singleton.1 hi).symm
 | @up y p m e h2 ih=>
  rcases List.mem_cons.1 hi with rfl|hi
  ·exact .inl rfl
  ·rcases ih hi with rfl| ⟨k,hk,hm⟩
   ·exact .inr ⟨y,mem_kids.2 e,by simp⟩
   ·exact .inr ⟨k,hk,List.mem_cons_of_mem _ hm⟩
def Ways (ps:List Int) :Prop:=∀x<ps.length,∃l,IsWay ps x l∧l.length≤ps.length
theorem mem_down {ps:List Int} (W:Ways ps) : ∀(m i:Nat) (l:List Nat) (x:Nat),IsWay ps i l→ps.length+1≤m+l.length→(x∈downF ps m i↔∃lx,IsWay ps x lx∧i∈lx)
 |0,i,l,x,h,hm=>by
  obtain⟨l',h2,h3⟩:=W i h.lt;rw [h.unique h2] at hm;omega
 |m+1,i,l,x,h,hm=>by
  have IH: ∀k∈kidsN ps i,(x∈downF ps m k↔∃lx,IsWay ps x lx∧k∈lx):=fun k hk=>mem_down W m k (k :: l) x (.up (mem_kids.1 hk) h) (by simp only [List.length_cons];omega);simp only [downF,List.mem_append,List.mem_flatMap,List.mem_singleton]
  constructor
  ·rintro(⟨k,hk,hx⟩ |rfl)
   ·obtain⟨lx,h1,h2⟩:=(IH k hk).1 hx
    refine⟨lx,h1,(h1.sub h2 (.up (mem_kids.1 hk) h)).subset ?_⟩;exact List.mem_cons_of_mem _ h.mem
   ·exact⟨l,h,h.mem⟩
  ·rintro⟨lx,h1,h2⟩
   rcases h1.kid h2 with rfl| ⟨k,hk,h3⟩
   ·exact .inr rfl
   ·exact .inl ⟨k,hk,(IH k hk).2 ⟨lx,h1,h3⟩⟩
theorem flat_nodup {β:Type} {f:Nat→List β} : ∀{l:List Nat},l.Nodup→(∀a∈l,(f a).Nodup)→(∀a∈l,∀b∈l,a≠b→∀x∈f a,x∉f b)→(l.flatMap f).Nodup
 | [],_,_,_=>by simp
 |a :: l,hn,h1,h2=>by
  rw [List.flatMap_cons,List.nodup_append];rw [List.nodup_cons] at hn;refine⟨h1 a (by simp),flat_nodup hn.2 (fun b hb=>h1 b (by simp [hb])) (fun b hb c hc=>h2 b (by simp [hb]) c (by simp [hc])),fun x hx y hy e=> ?_⟩;subst e;obtain⟨b,hb,hxb⟩:=List.mem_flatMap.1 hy;exact h2 a (by simp) b (by simp [hb]) (fun e=>hn.1 (e ▸ hb)) x hx hxb
theorem suffix_len {α:Type} {a b l:List α} (ha:a <:+ l) (hb:b <:+ l) (h:a.length=b.length) :a=b:=by
 obtain⟨x,rfl⟩:=ha;obtain⟨y,e⟩:=hb;exact(List.append_inj e.symm (by have:=congrArg List.length e;simp at this;omega)).2
theorem down_nodup {ps:List Int} (W:Ways ps) : ∀(m i:Nat) (l:List Nat),IsWay ps i l→ps.length+1≤m+l.length→(downF ps m i).Nodup
 |0,i,l,h,hm=>by simp [downF]
 |m+1,i,l,h,hm=>by
  have wk: ∀k∈kidsN ps i,IsWay ps k (k :: l):=fun k hk=>.up (mem_kids.1 hk) h;have lk: ∀k:Nat,ps.length+1≤m+ (k :: l).length:=fun k=>by simp only [List.length_cons];omega
  simp only [downF];rw [List.nodup_append];refine⟨flat_nodup (kids_nodup ps i) (fun k hk=>down_nodup W m k _ (wk k hk) (lk k)) fun a ha b hb hab x hx hxb=> ?_,by simp,fun x hx y hy e=> ?_⟩
  ·obtain⟨la,h1,h2⟩:=(mem_down W m a _ x (wk a ha) (lk a)).1 hx
   obtain⟨lb,h3,h4⟩:=(mem_down W m b _ x (wk b hb) (lk b)).1 hxb;obtain rfl:=h1.unique h3;have:=suffix_len (h1.sub h2 (wk a ha)) (h1.sub h4 (wk b hb)) rfl;exact hab (List.cons.inj this).1
  ·rw [List.mem_singleton] at hy
   subst hy;subst e;obtain⟨k,hk,hx⟩:=List.mem_flatMap.1 hx;obtain⟨lx,h1,h2⟩:=(mem_down W m k _ x (wk k hk) (lk k)).1 hx;obtain rfl:=h.unique h1;exact h.not_below (mem_kids.1 hk) h2
def upR (ps:List Int) :Nat→Nat→Option (List Nat)
 |0,_=>none
 |m+1,i=>if ps[i]? =some (-1) then some [i] else if (ps.getD i 0) <0∨(ps.length:Int)≤ps.getD i 0 then none else (upR ps m (ps.getD i 0).toNat).map (i :: ·)
theorem upR_way {ps:List Int} : ∀{m i:Nat} {l:List Nat},i<ps.length→upR ps m i=some l→IsWay ps i l∧l.length≤m
 |0,i,l,hi,h=>by cases h
 |m+1,i,l,hi,h=>by
  have e0:ps[i]? =some (ps.getD i 0):=by rw [List.getD_eq_getElem?_getD,List.getElem?_eq_getElem hi];rfl
  unfold upR at h
  split at h
  ·rename_i e
   obtain rfl:=Option.some.inj h;exact⟨.root e,by simp⟩
  ·split at h
   ·cases h
   ·rename_i e1 e2
    rw [Option.map_eq_some_iff] at h;obtain⟨l',h1,rfl⟩:=h;have hlt: (ps.getD i 0).toNat<ps.length:=by omega
    obtain⟨h2,h3⟩:=upR_way hlt h1;exact⟨.up (by rw [e0,Int.toNat_of_nonneg (by omega)]) h2,by simp only [List.length_cons];omega⟩
def rightG (ps:List Int) :Bool:=decide (1≤ps.length) && decide (ps.length≤48) && ((List.range ps.length).all fun i=>(upR ps ps.length i).isSome) && decide (ps.count (-1) =1)
theorem rightG_ways {ps:List Int} (h:rightG ps=true) :Ways ps:=fun x hx=>by
 simp only [rightG,Bool.and_eq_true,decide_eq_true_eq,List.all_eq_true,List.mem_range] at h;have:=h.1.2 x hx;obtain⟨l,hl⟩:=Option.isSome_iff_exists.1 this;exact⟨l,(upR_way hx hl).1,(upR_way hx hl).2⟩
def rootG (ps:List Int) :Nat:=ps.idxOf (-1)
theorem count_one {ps:List Int} (h:ps.count (-1) =1) {i j:Nat} (hi:ps[i]? =some (-1)) (hj:ps[j]? =some (-1)) :i=j:=by
 induction ps generalizing i j with
 |nil=>simp at hi
 |cons p ps ih=>
  by_cases hp:p= -1
  ·subst hp
   rw [List.count_cons_self] at h;have h0:ps.count (-1) =0:=by omega
   have hn: ∀k,ps[k]? ≠some (-1):=fun k hk=>(List.count_eq_zero.1 h0) (List.mem_of_getElem? hk)
   cases i with
   |zero=>cases j with
    |zero=>rfl
    |succ j=>exact absurd (by simpa using hj) (hn j)
   |succ i=>exact absurd (by simpa using hi) (hn i)
  ·rw [List.count_cons_of_ne hp] at h
   cases i with
   |zero=>simp at hi;exact absurd hi hp
   |succ i=>cases j with
    |zero=>simp at hj;exact absurd hj hp
    |succ j=>exact congrArg Nat.succ (ih h (List.getElem?_cons_succ ▸ hi) (List.getElem?_cons_succ ▸ hj))
theorem rightG_root {ps:List Int} (h:rightG ps=true) :ps[rootG ps]? =some (-1):=by
 simp only [rightG,Bool.and_eq_true,decide_eq_true_eq] at h;have hm: (-1:Int)∈ps:=List.count_pos_iff.1 (by omega);have hlt:=List.idxOf_lt_length_iff.2 hm;unfold rootG;rw [List.getElem?_eq_getElem hlt];exact congrArg some (List.getElem_idxOf hlt)
theorem IsWay.last {ps:List Int} (h:rightG ps=true) {x:Nat} {l:List Nat} (hx:IsWay ps x l) :rootG ps∈l:=by
 have hc:ps.count (-1) =1:=by simp only [rightG,Bool.and_eq_true,decide_eq_true_eq] at h;exact h.2
 induction hx with
 |root e=>rw [count_one hc (rightG_root h) e];simp
 |up _ _ ih=>exact List.mem_cons_of_mem _ ih
def orderG (ps:List Int) :List Nat:=downF ps ps.length (rootG ps)
theorem order_mem {ps:List Int} (h:rightG ps=true) {x:Nat} :x∈orderG ps↔x<ps.length:=by
 rw [orderG,mem_down (rightG_ways h) _ _ _ _ (.root (rightG_root h)) (by simp)];exact⟨fun ⟨l,h1,_⟩=>h1.lt,fun hx=>let ⟨l,h1,_⟩:=rightG_ways h x hx;⟨l,h1,h1.last h⟩⟩
theorem order_nodup {ps:List Int} (h:rightG ps=true) : (orderG ps).Nodup:=down_nodup (rightG_ways h) _ _ _ (.root (rightG_root h)) (by simp)
theorem order_last {ps:List Int} : ∃l,orderG ps=l ++ [rootG ps]:=by
 unfold orderG
 cases ps.length with
 |zero=>exact⟨[],rfl⟩
 |succ m=>exact⟨_,rfl⟩
theorem order_len {ps:List Int} (h:rightG ps=true) : (orderG ps).length=ps.length:=by
 have:=(List.perm_ext_iff_of_nodup (order_nodup h) List.nodup_range).2 fun x=>(order_mem h).trans List.mem_range.symm;rw [this.length_eq,List.length_range]
def OfTo (l:Nat) (k:Int) :List Nd→List Op3→List Nd→Prop
 |r, [],s=>s=r
 |r,o :: L,s=>∃r' n,DoTo l k r o r' n∧OfTo l k r' L s
def bagL3 (l:Nat) :List Nd→List Op3→List Nd
 |m, []=>m
 |m,o :: L=>bagL3 l (if o.1=1 then m else if o.1=2 then [] else (addB l m o.2.1 o.2.2).1) L
def Of14Post [Zone] (l:Nat) (k:Int) (L:List Op3) (w:World) (e:Ending) (w':World) :Prop:=
 ∃(s:List Nd) (A:Option Addr) (c:Nat),e=.returned (.agg #[.int .i64 k,.int .i64 l,.slice A s.length c])∧OfTo l k [] L s∧SlZ w' 172 encN A s∧Below w.heap.size w w'
structure Nt where
 on:Int
 fr:Int
 k:Int
 l:Int
 cover:Nat
 ops:List Op3
 at_:Int
 by_:UInt8
def turnT (t:List UInt8) (p:Int) (y:UInt8) :List UInt8:=if 0≤p∧p<t.length then (spoilT ⟨t.toArray⟩ p.toNat (y.toNat:Int)).data.toList else t
def textL (ep:Int) (B:Nt) (d:List Nd) :List UInt8:=
 if (enc29 (wrap64 (ep+B.on)) B.fr B.cover (wireT B.l.toNat B.k d)).2≠0 then [] else turnT (enc29 (wrap64 (ep+B.on)) B.fr B.cover (wireT B.l.toNat B.k d)).1 B.at_ B.by_
def TextTo (ep:Int) (B:Nt) (t:List UInt8) :Prop:=
 (isDig B.l B.k 2=false∧t= [])∨(isDig B.l B.k 2=true∧∃d,OfTo B.l.toNat B.k [] B.ops d∧t=textL ep B d)
structure OpX where
 kd:Int
 x:Int
 y:Int
 b:Nt
 A:Option Addr
 c:Nat
def noNt:Nt:=⟨0,0,0,0,0, [],0,0⟩
instance:Inhabited OpX:=⟨⟨0,0,0,noNt,none,0⟩⟩
structure Al (l:Nat) (s:Sen) (r:List Nd) :Prop where
 sl:s.l=l
 l1:1≤l∧l≤48
 k:1≤s.k∧s.k≤124
 ok:SenOk s
 fits:Fits l r
 light:lightOf l r s.k=true
 room: (r.length:Int)≤8*s.k
def SendTo (l:Nat) (s:Sen) (r:List Nd) (t:List UInt8) (e:Int) (s':Sen) (r':List Nd) :Prop:=
 (s.sent=true∧t= []∧e=18∧s'=s∧r'=r)∨(s.sent=false∧readyS s=false∧t= []∧e=22∧s'=s∧r'=r)∨
 (s.sent=false∧readyS s=true∧∃ps,RunTo l (sumR r / s.k) r ps r'∧t=ltrT (senL l s r')∧e=0∧s'=sentS s)
def nextR (s:Sen) (r:List Nd) :List Nd:=if s.ep=1099511627776 then r else []
def StepTo (l:Nat) (s:Sen) (r:List Nd) (o:OpX) (t:List UInt8) (e:Int) (s':Sen) (r':List Nd) :Prop:=
 (o.kd=0∧t= []∧e=putErr l s r o.x o.y∧s'=s∧PutTo l s r o.x o.y r')∨
 (o.kd=1∧t= []∧∃tx,TextTo s.ep o.b tx∧e=hearE l s r tx∧HearTo l s r tx s' r')∨
 (o.kd=3∧SendTo l s r t e s' r')∨
 (o.kd=4∧t= []∧e=nextE s∧s'=nextS s∧r'=nextR s r)∨
 ((o.kd≠0∧o.kd≠1∧o.kd≠3∧o.kd≠4)∧t= []∧e=0∧s'=tickedS s∧r'=r)
theorem withC_right {c:Nat} {i:Int} (h:rightC c=true) :rightC (withC c i) =true:=by
 unfold withC
 split
 ·rename_i h1
  split
  ·exact h
  ·rename_i h2
   obtain⟨n,rfl,hn⟩:=isCrew_nat h1
   have h3:c.testBit n=false:=by
    rw [Nat.testBit_eq_decide_div_mod_eq]
    simpa [hasN] using h2
   unfold rightC at h⊢;simp only [decide_eq_true_eq,Int.toNat_natCast] at h⊢;have e:=or_two_pow_add h3;have h4:c ||| 2^n<2^48:=Nat.or_lt_two_pow (by omega) (Nat.pow_lt_pow_right (by decide) hn);omega
 ·exact h
theorem right_or {a b:Nat} (ha:rightC a=true) (hb:rightC b=true) :rightC (a ||| b) =true:=by
 unfold rightC at ha hb⊢;simp only [decide_eq_true_eq] at ha hb⊢;have:a ||| b<2^48:=Nat.or_lt_two_pow (by omega) (by omega);omega
theorem has_or {a b:Nat} {i:Int} (h:hasC a i=true) :hasC (a ||| b) i=true:=by
 unfold hasC hasN at h⊢;rw [←Nat.testBit_eq_decide_div_mod_eq,Nat.testBit_or];rw [←Nat.testBit_eq_decide_div_mod_eq,Bool.and_eq_true] at h;rw [h.1,h.2];rfl
theorem SenOk.heard {s:Sen} {x:Ltr} (h:SenOk s) (hx:rightL x=true) :SenOk (heardS s x):=by
 unfold rightL at hx;simp only [Bool.and_eq_true,decide_eq_true_eq] at hx;exact⟨h.p,h.e0,h.e1,h.t0,h.t1,right_or h.c hx.1.2,has_or h.me,withC_right h.h⟩
theorem SenOk.next {s:Sen} (h:SenOk s) (he:s.ep≠1099511627776) :SenOk (senNew s.l s.k s.kd s.p (s.ep+1)):=by
 have h1:=h.wait;have hm:=withC_me h1.2.2.1;have:=h.e0;have:=h.e1;exact⟨h.p,by show 0≤s.ep+1;omega,by show s.ep+1≤1099511627776;omega,Int.le_refl _,by show (0:Int)≤s.p.wait;omega,hm.1,hm.2,rfl⟩
theorem spoil_len (t:List UInt8) (a:Nat) (b:Int) : (spoilT ⟨t.toArray⟩ a b).data.toList.length=t.length:=by
 unfold spoilT;rw [strOfNums_data,List.length_map,List.length_set,nums_len]
 rfl
theorem ltrT_len {x:Ltr} (h:rightL x=true) (he:x.e≤9223372036854775807) : (ltrT x).length≤1048700:=by
 unfold rightL at h;simp only [Bool.and_eq_true,decide_eq_true_eq] at h
 have hf:x.f<48:=by
  have:=h.1.1.2;unfold hasC isCrew at this;simp only [Bool.and_eq_true,decide_eq_true_eq] at this;omega
 have hc:=h.1.2;unfold rightC at hc;simp only [decide_eq_true_eq] at hc
 have h1:=putB_len (L:=ltrL x) (by
  intro z hz;unfold ltrL at hz;simp only [List.mem_cons,List.not_mem_nil,or_false] at hz;rcases hz with rfl|rfl|rfl|rfl <;> omega)
 have h2: (ltrL x).length=4:=rfl;unfold ltrT;rw [sealT_len];simp only [List.length_append,List.length_cons,List.length_nil];omega
abbrev SR:=Sen×List Nd
structure EpM where
 ss:List SR
 wv:WS
 st:Bool
 en:Bool
structure EpL where
 base:Nat
 g:Nat
 K:Nat
 l:Nat
 gw:Nat
 vp:Value
 vo:Value
 vs:Value
 gs:List Nat
 ps:List Int
def encEp:Enc Nat 1:=⟨fun g=> [.pointer (some ⟨g,0,none⟩)],fun _=>rfl,by intro x u hu;simp at hu;subst hu;rfl⟩
theorem tyEp:SliceTy Tryz.prog 83 97 1 8 (.pointer none):=⟨Tryz.underlying83,by kernel_rfl,rfl,by decide⟩
def ordZ (ps:List Int) :List Int:=natZ (orderG ps)
def runC (L:EpL) (st en:Bool) :Array Value:= #[.pointer (some ⟨L.gw,0,none⟩),L.vp,L.vo,L.vs,.bool st,.bool en]
structure EpIn (w:World) (L:EpL) (m:EpM) (Fs:Nat→Nat→Prop) :Prop where
 cs:w.heap[L.g]? =some (.cells (runC L m.st m.en) 85 (0,0))
 gb:L.base≤L.g
 bs:L.base≤w.heap.size
 wv:WaveAt w L.base L.gw m.wv
 p:Own w L.base 3 encZ L.vp L.ps
 o:Own w L.base 3 encZ L.vo (ordZ L.ps)
 s:Own w L.base 97 encEp L.vs L.gs
 lg:L.gs.length=L.ps.length
 ls:m.ss.length=L.ps.length
 at_: ∀i x,m.ss[i]? =some x→SensAt w (L.gs.getD i 0) L.K L.l x.1 x.2 (Fs i)
 fb: ∀i,i<L.ps.length→∀b,Fs i b→L.base≤b
 ap: ∀i j,i<L.ps.length→j<L.ps.length→i≠j→∀b,Fs i b→¬Fs j b
 fp: ∀i,i<L.ps.length→∀b,Fs i b→L.vp.ownBlock≠some b∧L.vo.ownBlock≠some b
def epF (w:World) (L:EpL) (Fs:Nat→Nat→Prop) (b:Nat) :Prop:=b=L.g∨L.vp.ownBlock=some b∨L.vo.ownBlock=some b∨L.vs.ownBlock=some b∨waveF w L.gw b∨∃i,i<L.ps.length∧Fs i b
def EpAt (w:World) (L:EpL) (m:EpM) (F:Nat→Prop) :Prop:=∃Fs,EpIn w L m Fs∧∀b,F b↔epF w L Fs b
def EpTo (w:World) (L:EpL) (m:EpM) (F:Nat→Prop) (w':World) :Prop:=∃F',EpAt w' L m F'∧Turn F w w'∧Grow w F F'
def EpM.setS (m:EpM) (i:Nat) (x:SR) :EpM:={m with ss:=m.ss.set i x}
theorem own_tyAt {α:Type} {size base e:Nat} {E:Enc α size} {w:World} {v:Value} {l:List α} (h:Own w base e E v l) : ∀b,v.ownBlock=some b→TypeAt w b e:=fun b hb=>by
 rcases h with ⟨rfl,_⟩ | ⟨g1,o1,c1,u1,rfl,_,hh1,_⟩
 ·cases hb
 ·have:g1=b:=by simpa [Value.ownBlock] using hb
  subst this;exact .of hh1
theorem SensAt.not_type {w:World} {g K l:Nat} {s:Sen} {r:List Nd} {F:Nat→Prop} (h:SensAt w g K l s r F) {b t:Nat} (hb:TypeAt w b t)
 (ht:t≠153∧t≠118∧t≠167∧t≠219∧t≠3∧t≠221∧t≠172) : ¬F b:=by
 obtain⟨dg,F0,rfl,h1,_,_,h2,_⟩:=h;rintro(rfl|hf)
 ·exact ht.1 (typeAt_eq hb (.of h1))
 ·exact h2.not_type hb ht.2 hf
section
variable {w w' W:World} {L:EpL} {m:EpM} {F:Nat→Prop} {Fs:Nat→Nat→Prop}
theorem waveF_keep {gw b:Nat} (h:w'.heap[gw]? =w.heap[gw]?) :waveF w' gw b↔waveF w gw b:=by
 unfold waveF;rw [World.cell?_of_block h]
theorem WaveAt.type {base gw:Nat} {s:WS} (h:WaveAt w base gw s) {b:Nat} (hb:waveF w gw b) : (TypeAt w b 181∨TypeAt w b 193)∧base≤b∧b<w.heap.size:=by
 obtain⟨v,hh,hg,ho⟩:=h;rcases (waveF_of hh rfl).1 hb with rfl|hb
 ·exact⟨.inl (.of hh),hg,lB hh⟩
 ·exact⟨.inr (own_tyAt ho b hb),ho.lt b hb⟩
theorem WaveAt.keepF {base gw:Nat} {s:WS} (h:WaveAt w base gw s) (hk: ∀b,waveF w gw b→w'.heap[b]? =w.heap[b]?) :WaveAt w' base gw s:=by
 obtain⟨v,hh,hg,ho⟩:=h;exact⟨v,(hk gw (.inl rfl)).trans hh,hg,ho.of_block fun b hb=>hk b ((waveF_of hh rfl).2 (.inr hb))⟩
theorem WaveAt.not_type {base gw:Nat} {s:WS} (h:WaveAt w base gw s) {b t:Nat} (hb:TypeAt w b t) (ht:t≠181∧t≠193) : ¬waveF w gw b:=fun hf=>by
 rcases (h.type hf).1 with h1|h1
 ·exact ht.1 (typeAt_eq hb h1)
 ·exact ht.2 (typeAt_eq hb h1)
theorem EpIn.has (h:EpIn w L m Fs) {i:Nat} (hi:i<L.ps.length) : ∃x,m.ss[i]? =some x:=⟨_,List.getElem?_eq_getElem (by rw [h.ls];exact hi)⟩
theorem EpIn.free (h:EpIn w L m Fs) {i:Nat} (hi:i<L.ps.length) {b:Nat} (hb:Fs i b) :b≠L.g∧L.vp.ownBlock≠some b∧L.vo.ownBlock≠some b∧L.vs.ownBlock≠some b∧¬waveF w L.gw b:=by
 obtain⟨x,hx⟩:=h.has hi;have ha:=h.at_ i x hx;refine⟨?_,(h.fp i hi b hb).1,(h.fp i hi b hb).2,fun e=>ha.not_type (own_tyAt h.s b e) (by decide) hb,fun e=> ?_⟩
 ·rintro rfl
  exact ha.not_type (.of h.cs) (by decide) hb
 ·rcases (h.wv.type e).1 with h1|h1
  ·exact ha.not_type h1 (by decide) hb
  ·exact ha.not_type h1 (by decide) hb
theorem EpIn.lt (h:EpIn w L m Fs) {b:Nat} (hb:epF w L Fs b) :L.base≤b∧b<w.heap.size:=by
 rcases hb with rfl|hb|hb|hb|hb| ⟨i,hi,hb⟩
 ·exact⟨h.gb,lB h.cs⟩
 ·exact h.p.lt b hb
 ·exact h.o.lt b hb
 ·exact h.s.lt b hb
 ·exact(h.wv.type hb).2
 ·obtain⟨x,hx⟩:=h.has hi
  exact⟨h.fb i hi b hb,(h.at_ i x hx).lt b hb⟩
theorem EpIn.keep (h:EpIn w L m Fs) (hs:w.heap.size≤w'.heap.size) (hk: ∀b,epF w L Fs b→w'.heap[b]? =w.heap[b]?) :EpIn w' L m Fs:=
 ⟨(hk _ (.inl rfl)).trans h.cs,h.gb,Nat.le_trans h.bs hs,h.wv.keepF fun b hb=>hk b (.inr (.inr (.inr (.inr (.inl hb))))),h.p.of_block fun b hb=>hk b (.inr (.inl hb)),h.o.of_block fun b hb=>hk b (.inr (.inr (.inl hb))),
  h.s.of_block fun b hb=>hk b (.inr (.inr (.inr (.inl hb)))),h.lg,h.ls,fun i x hx=>(h.at_ i x hx).keep fun b hb=>hk b (.inr (.inr (.inr (.inr (.inr ⟨i,by rw [←h.ls];exact(List.getElem?_eq_some_iff.1 hx).1,hb⟩))))),h.fb,h.ap,h.fp⟩
theorem epF_keep (h:w'.heap[L.gw]? =w.heap[L.gw]?) {b:Nat} :epF w' L Fs b↔epF w L Fs b:=by
 unfold epF;rw [waveF_keep h]
theorem EpAt.lt (h:EpAt w L m F) : ∀b,F b→b<w.heap.size:=fun b hb=>by
 obtain⟨Fs,h1,h2⟩:=h;exact(h1.lt ((h2 b).1 hb)).2
theorem EpAt.ge (h:EpAt w L m F) : ∀b,F b→L.base≤b:=fun b hb=>by
 obtain⟨Fs,h1,h2⟩:=h;exact(h1.lt ((h2 b).1 hb)).1
theorem EpAt.keep (h:EpAt w L m F) (hs:w.heap.size≤w'.heap.size) (hk: ∀b,F b→w'.heap[b]? =w.heap[b]?) :EpAt w' L m F:=by
 obtain⟨Fs,h1,h2⟩:=h;exact⟨Fs,h1.keep hs fun b hb=>hk b ((h2 b).2 hb),fun b=>(h2 b).trans (epF_keep (hk _ ((h2 _).2 (.inr (.inr (.inr (.inr (.inl (.inl rfl))))))))).symm⟩
theorem EpAt.below (h:EpAt w L m F) (hb:Below w.heap.size w w') :EpAt w' L m F:=h.keep hb.size fun b hf=>hb.block b (h.lt b hf)
theorem EpAt.cells (h:EpAt w L m F) :w.heap[L.g]? =some (.cells (runC L m.st m.en) 85 (0,0)):=by
 obtain⟨Fs,h1,h2⟩:=h;exact h1.cs
theorem EpAt.bs (h:EpAt w L m F) :L.base≤w.heap.size:=by
 obtain⟨Fs,h1,h2⟩:=h;exact h1.bs
theorem EpAt.lens (h:EpAt w L m F) :L.gs.length=L.ps.length∧m.ss.length=L.ps.length:=by
 obtain⟨Fs,h1,h2⟩:=h;exact⟨h1.lg,h1.ls⟩
theorem EpAt.par (h:EpAt w L m F) :Own w L.base 3 encZ L.vp L.ps:=by
 obtain⟨Fs,h1,h2⟩:=h;exact h1.p
theorem EpAt.ord (h:EpAt w L m F) :Own w L.base 3 encZ L.vo (ordZ L.ps):=by
 obtain⟨Fs,h1,h2⟩:=h;exact h1.o
theorem EpAt.sen (h:EpAt w L m F) :Own w L.base 97 encEp L.vs L.gs:=by
 obtain⟨Fs,h1,h2⟩:=h;exact h1.s
theorem EpTo.refl (h:EpAt w L m F) :EpTo w L m F w:=⟨F,h,.refl _ _,Grow.refl⟩
theorem EpTo.below (h:EpAt w L m F) (hb:Below w.heap.size w w') :EpTo w L m F w':=⟨F,h.below hb,.of_below hb,Grow.refl⟩
theorem EpTo.from_ (hb:Below w.heap.size w W) (h:EpTo W L m F w') :EpTo w L m F w':=by
 obtain⟨F',h1,h2,h3⟩:=h;exact⟨F',h1,(Turn.of_below hb).trans h2 fun b hf=>.inl hf,fun b hf=>(h3 b hf).imp id fun h=>Nat.le_trans hb.size h⟩
theorem EpTo.then_ {m1 m2:EpM} (h:EpTo w L m1 F W) (k: ∀F1,EpAt W L m1 F1→EpTo W L m2 F1 w') :EpTo w L m2 F w':=by
 obtain⟨F',h1,h2,h3⟩:=h;obtain⟨F2,k1,k2,k3⟩:=k F' h1;exact⟨F2,k1,h2.trans k2 h3,h3.trans k3 h2.size⟩
theorem EpTo.cells (h:EpTo w L m F W) :W.heap[L.g]? =some (.cells (runC L m.st m.en) 85 (0,0)):=by
 obtain⟨F',h1,_⟩:=h;exact h1.cells
theorem EpAt.sens (h:EpAt w L m F) {i:Nat} {x:SR} (hx:m.ss[i]? =some x) : ∃Fi,SensAt w (L.gs.getD i 0) L.K L.l x.1 x.2 Fi∧(∀b,Fi b→F b)∧
 ∀W s' r',SensTo w (L.gs.getD i 0) L.K L.l s' r' Fi W→EpTo w L (m.setS i (s',r')) F W:=by
 obtain⟨Fs,h1,h2⟩:=h;have hi0:=(List.getElem?_eq_some_iff.1 hx).1;have hi:i<L.ps.length:=by rw [←h1.ls];exact hi0
 refine⟨Fs i,h1.at_ i x hx,fun b hb=>(h2 b).2 (.inr (.inr (.inr (.inr (.inr ⟨i,hi,hb⟩))))),fun W s' r' ⟨F',a1,t,gr⟩=> ?_⟩;have k: ∀b,b<w.heap.size→¬Fs i b→W.heap[b]? =w.heap[b]? :=t.block;have kw: ∀b,waveF w L.gw b→W.heap[b]? =w.heap[b]? :=fun b hb=>k b (h1.wv.type hb).2.2 fun hf=>(h1.free hi hf).2.2.2.2 hb;have kg:W.heap[L.gw]? =w.heap[L.gw]? :=kw _ (.inl rfl);refine⟨epF W L fun j=>if j=i then F' else Fs j,⟨fun j=>if j=i then F' else Fs j,⟨?_,h1.gb,Nat.le_trans h1.bs t.size,h1.wv.keepF kw,?_,?_,?_,h1.lg,by simpa [EpM.setS] using h1.ls,?_,?_,?_,?_⟩,fun b=>Iff.rfl⟩,?_,?_⟩
 ·exact(k _ (lB h1.cs) fun hf=>(h1.free hi hf).1 rfl).trans h1.cs
 ·exact h1.p.of_block fun b hb=>k b (h1.p.lt b hb).2 fun hf=>(h1.free hi hf).2.1 hb
 ·exact h1.o.of_block fun b hb=>k b (h1.o.lt b hb).2 fun hf=>(h1.free hi hf).2.2.1 hb
 ·exact h1.s.of_block fun b hb=>k b (h1.s.lt b hb).2 fun hf=>(h1.free hi hf).2.2.2.1 hb
 ·intro j y hy
  simp only [EpM.setS,List.getElem?_set] at hy;by_cases hj:i=j
  ·subst hj
   rw [if_pos rfl,if_pos hi0] at hy
   cases hy
   rw [if_pos rfl];exact a1
  ·rw [if_neg hj] at hy
   rw [if_neg (Ne.symm hj)];have hj2:j<L.ps.length:=by rw [←h1.ls];exact(List.getElem?_eq_some_iff.1 hy).1
   exact(h1.at_ j y hy).keep fun b hb=>k b ((h1.at_ j y hy).lt b hb) (h1.ap j i hj2 hi (Ne.symm hj) b hb)
 ·intro j hj b hb
  try dsimp only at hb
  split at hb
  ·rcases gr b hb with hb|hb
   ·exact h1.fb i hi b hb
   ·exact Nat.le_trans h1.bs hb
  ·exact h1.fb j hj b hb
 ·intro a c ha hc hac b hb hb2
  try dsimp only at hb hb2
  split at hb
  ·rename_i ea
   rw [if_neg (by rw [←ea];exact Ne.symm hac)] at hb2;rcases gr b hb with hb|hb
   ·exact h1.ap i c hi hc (by rw [←ea];exact hac) b hb hb2
   ·obtain⟨y,hy⟩:=h1.has hc
    have:=(h1.at_ c y hy).lt b hb2;omega
  ·rename_i ea
   split at hb2
   ·rcases gr b hb2 with hb2|hb2
    ·exact h1.ap a i ha hi ea b hb hb2
    ·obtain⟨y,hy⟩:=h1.has ha
     have:=(h1.at_ a y hy).lt b hb;omega
   ·exact h1.ap a c ha hc hac b hb hb2
 ·intro j hj b hb
  try dsimp only at hb
  split at hb
  ·rcases gr b hb with hb|hb
   ·exact h1.fp i hi b hb
   ·exact⟨fun e=>by have:=(h1.p.lt b e).2;omega,fun e=>by have:=(h1.o.lt b e).2;omega⟩
  ·exact h1.fp j hj b hb
 ·exact t.mono fun b _ hb=>(h2 b).2 (.inr (.inr (.inr (.inr (.inr ⟨i,hi,hb⟩)))))
 ·intro b hb
  rw [h2 b];rcases hb with hb|hb|hb|hb|hb| ⟨j,hj,hb⟩
  ·exact .inl (.inl hb)
  ·exact .inl (.inr (.inl hb))
  ·exact .inl (.inr (.inr (.inl hb)))
  ·exact .inl (.inr (.inr (.inr (.inl hb))))
  ·exact .inl (.inr (.inr (.inr (.inr (.inl ((waveF_keep kg).1 hb))))))
  ·try dsimp only at hb
   split at hb
   ·rcases gr b hb with hb|hb
    ·exact .inl (.inr (.inr (.inr (.inr (.inr ⟨i,hi,hb⟩)))))
    ·exact .inr hb
   ·exact .inl (.inr (.inr (.inr (.inr (.inr ⟨j,hj,hb⟩)))))
theorem EpAt.wave (h:EpAt w L m F) :WaveAt w L.base L.gw m.wv∧∀W wv',WaveRel w L.base L.gw wv' W→EpTo w L {m with wv:=wv'} F W:=by
 obtain⟨Fs,h1,h2⟩:=h;refine⟨h1.wv,fun W wv' hr=> ?_⟩;have t:=hr.turn.2.1;have k: ∀b,b<w.heap.size→¬waveF w L.gw b→W.heap[b]? =w.heap[b]? :=t.block;have nf: ∀{b t:Nat},TypeAt w b t→t≠181∧t≠193→W.heap[b]? =w.heap[b]? :=fun hb ht=>k _ hb.lt (h1.wv.not_type hb ht);refine⟨epF W L Fs,⟨Fs,⟨?_,h1.gb,Nat.le_trans h1.bs t.size,hr.at_,?_,?_,?_,h1.lg,h1.ls,?_,h1.fb,h1.ap,h1.fp⟩,fun b=>Iff.rfl⟩,?_,?_⟩
 ·exact(nf (.of h1.cs) (by decide)).trans h1.cs
 ·exact h1.p.of_block fun b hb=>nf (own_tyAt h1.p b hb) (by decide)
 ·exact h1.o.of_block fun b hb=>nf (own_tyAt h1.o b hb) (by decide)
 ·exact h1.s.of_block fun b hb=>nf (own_tyAt h1.s b hb) (by decide)
 ·intro i x hx
  have hi:i<L.ps.length:=by rw [←h1.ls];exact(List.getElem?_eq_some_iff.1 hx).1
  exact(h1.at_ i x hx).keep fun b hb=>k b ((h1.at_ i x hx).lt b hb) (h1.free hi hb).2.2.2.2
 ·exact t.mono fun b _ hb=>(h2 b).2 (.inr (.inr (.inr (.inr (.inl hb)))))
 ·intro b hb
  rw [h2 b];rcases hb with hb|hb|hb|hb|hb|hb
  ·exact .inl (.inl hb)
  ·exact .inl (.inr (.inl hb))
  ·exact .inl (.inr (.inr (.inl hb)))
  ·exact .inl (.inr (.inr (.inr (.inl hb))))
  ·exact(hr.turn.2.2 b hb).imp (fun h=>.inr (.inr (.inr (.inr (.inl h))))) id
  ·exact .inl (.inr (.inr (.inr (.inr (.inr hb)))))
theorem EpAt.flag (h:EpAt w L m F) {o:Nat} {u:Value} {st en:Bool} (hc: (runC L m.st m.en).setIfInBounds o u=runC L st en) :EpTo w L {m with st:=st,en:=en} F (w.setCell ⟨L.g,o,none⟩ u):=by
 obtain⟨Fs,h1,h2⟩:=h;have ot: ∀b,b≠L.g→(w.setCell ⟨L.g,o,none⟩ u).heap[b]? =w.heap[b]? :=fun b hb=>Below.heap_setCell _ _ _ _ hb;have nf: ∀{b t:Nat},TypeAt w b t→t≠85→(w.setCell ⟨L.g,o,none⟩ u).heap[b]? =w.heap[b]? :=fun hb ht=>ot _ (by rintro rfl;exact ht (typeAt_eq hb (.of h1.cs)))
 have kw: ∀b,waveF w L.gw b→(w.setCell ⟨L.g,o,none⟩ u).heap[b]? =w.heap[b]? :=fun b hb=>by
  rcases (h1.wv.type hb).1 with h|h
  ·exact nf h (by decide)
  ·exact nf h (by decide)
 have hs: (w.setCell ⟨L.g,o,none⟩ u).heap.size=w.heap.size:=by simp [World.setCell]
 refine⟨F,⟨Fs,⟨?_,h1.gb,by rw [hs];exact h1.bs,h1.wv.keepF kw,?_,?_,?_,h1.lg,h1.ls,?_,h1.fb,h1.ap,h1.fp⟩,fun b=>(h2 b).trans (epF_keep (kw _ (.inl rfl))).symm⟩,(Turn.refl _ _).setCell (.inl ((h2 _).2 (.inl rfl))) _,Grow.refl⟩
 ·rw [←hc]
  exact zH (i:=o) h1.cs u
 ·exact h1.p.of_block fun b hb=>nf (own_tyAt h1.p b hb) (by decide)
 ·exact h1.o.of_block fun b hb=>nf (own_tyAt h1.o b hb) (by decide)
 ·exact h1.s.of_block fun b hb=>nf (own_tyAt h1.s b hb) (by decide)
 ·intro i x hx
  have hi:i<L.ps.length:=by rw [←h1.ls];exact(List.getElem?_eq_some_iff.1 hx).1
  exact(h1.at_ i x hx).keep fun b hb=>ot b (h1.free hi hb).1
end
structure SrOk (l:Nat) (x:SR) :Prop where
 ok:SenOk x.1
 len:x.2.length≤50000
 fits:Fits l x.2
 k:1≤x.1.k∧x.1.k≤1048576
def WS.total (s:WS) :Nat:=s.sent+s.taken+s.lost+s.copied+s.spoilt
def It.ok (n:Nat) (x:It) :Prop:=0≤x.1∧x.1< (n:Int)∧x.2.size≤1048700
structure EpOk (L:EpL) (N:Nat) (m:EpM) :Prop where
 tree:rightG L.ps=true
 l:1≤L.l∧L.l≤48
 len:m.ss.length=L.ps.length
 sen: ∀x∈m.ss,SrOk L.l x
 its:m.wv.items.length≤256
 it: ∀x∈m.wv.items,It.ok L.ps.length x
 cnt:m.wv.total≤N
theorem EpOk.small {L:EpL} {N:Nat} {m:EpM} (h:EpOk L N m) (hN:N≤4611686018427380000) :m.wv.small:=by
 have:=h.cnt;unfold WS.total at this;unfold WS.small;omega
def sendM (l:Nat) (ps:List Int) (m:EpM) (i:Nat) (s:Sen) (r':List Nd) :EpM:=
 if ps.getD i 0<0 then {m with ss:=m.ss.set i (sentS s,r'),en:=true}
 else {m with ss:=m.ss.set i (sentS s,r'),wv:=(m.wv.send (ps.getD i 0,⟨(ltrT (senL l s r')).toArray⟩)).1}
inductive OnStep (l:Nat) (ps:List Int) (m:EpM) (i:Nat) :EpM→Prop
 |skip {x:SR} :m.ss[i]? =some x→readyS x.1=false→OnStep l ps m i m
 |send {x:SR} {pl:List Int} {r':List Nd} :m.ss[i]? =some x→readyS x.1=true→RunTo l (sumR x.2 / x.1.k) x.2 pl r'→OnStep l ps m i (sendM l ps m i x.1 r')
inductive OnTo (l:Nat) (ps:List Int) (m:EpM) :List Nat→EpM→Prop
 |nil:OnTo l ps m [] m
 |snoc {is:List Nat} {m1 m2:EpM} {i:Nat} :OnTo l ps m is m1→OnStep l ps m1 i m2→OnTo l ps m (is ++ [i]) m2
theorem sendM_ss (l:Nat) (ps:List Int) (m:EpM) (i:Nat) (s:Sen) (r':List Nd) : (sendM l ps m i s r').ss=m.ss.set i (sentS s,r'):=by unfold sendM;split <;> rfl
theorem send_items (s:WS) (x:It) : (s.send x).1.items=s.items∨(s.items.length≠256∧(s.send x).1.items=s.items ++ [x]):=by
 unfold WS.send
 split
 ·exact .inl rfl
 ·rename_i h
  exact .inr ⟨h,rfl⟩
theorem send_total (s:WS) (x:It) : (s.send x).1.total≤s.total+1:=by
 unfold WS.send WS.total
 split
 ·exact Nat.le_succ _
 ·dsimp only;omega
theorem rightG_par {ps:List Int} (h:rightG ps=true) {i:Nat} (hi:i<ps.length) :ps.getD i 0= -1∨(0≤ps.getD i 0∧ps.getD i 0< (ps.length:Int)):=by
 obtain⟨l,hl,_⟩:=rightG_ways h i hi;have e0:ps.getD i 0=ps[i]'hi:=by rw [List.getD_eq_getElem?_getD,List.getElem?_eq_getElem hi];rfl
 cases hl with
 |root e=>
  rw [List.getElem?_eq_getElem hi] at e;rw [e0];exact .inl (Option.some.inj e)
 | @up _ p _ e h2=>
  rw [List.getElem?_eq_getElem hi] at e;have:=h2.lt;rw [e0,Option.some.inj e]
  right;omega
theorem SrOk.run {l:Nat} {x:SR} {pl:List Int} {r':List Nd} (h:SrOk l x) (hr:RunTo l (sumR x.2 / x.1.k) x.2 pl r') :SrOk l (sentS x.1,r'):=
 ⟨h.ok.toSent,Nat.le_trans (hr.folded.len h.fits) h.len,hr.folded.fits h.fits,h.k⟩
theorem EpOk.step {L:EpL} {N:Nat} {m m':EpM} {i:Nat} (h:EpOk L N m) (hs:OnStep L.l L.ps m i m') :EpOk L (N+1) m':=by
 cases hs with
 |skip _ _=>exact⟨h.tree,h.l,h.len,h.sen,h.its,h.it,Nat.le_succ_of_le h.cnt⟩
 | @send x pl r' hx hr hrun=>
  have hi:i<L.ps.length:=by rw [←h.len];exact(List.getElem?_eq_some_iff.1 hx).1
  have hxo:=h.sen x (List.mem_of_getElem? hx);have hso:=hxo.run hrun
  have hsen: ∀y∈m.ss.set i (sentS x.1,r'),SrOk L.l y:=fun y hy=>by
   rcases List.mem_or_eq_of_mem_set hy with hy|rfl
   ·exact h.sen y hy
   ·exact hso
  unfold sendM
  split
  ·exact⟨h.tree,h.l,by simpa using h.len,hsen,h.its,h.it,Nat.le_succ_of_le h.cnt⟩
  ·rename_i hp
   have hpr:0≤L.ps.getD i 0∧L.ps.getD i 0< (L.ps.length:Int):=(rightG_par h.tree hi).resolve_left (by omega);have hR:=senL_right (r:=r') hxo.ok h.l hso.fits hxo.k.1 hxo.k.2 hso.len;have hT: (ltrT (senL L.l x.1 r')).length≤1048700:=ltrT_len hR (by show x.1.ep≤_;have:=hxo.ok.e1;omega);have hI:It.ok L.ps.length (L.ps.getD i 0,⟨(ltrT (senL L.l x.1 r')).toArray⟩):=⟨hpr.1,hpr.2,by simpa [ByteArray.size] using hT⟩;refine⟨h.tree,h.l,by simpa using h.len,hsen,?_,?_,Nat.le_trans (send_total _ _) (Nat.succ_le_succ h.cnt)⟩
   ·rcases send_items m.wv (L.ps.getD i 0,⟨(ltrT (senL L.l x.1 r')).toArray⟩) with e| ⟨hn,e⟩
    ·show (m.wv.send _).1.items.length≤256
     rw [e];exact h.its
    ·show (m.wv.send _).1.items.length≤256
     rw [e,List.length_append];have:=h.its;simp;omega
   ·intro y hy
    rcases send_items m.wv (L.ps.getD i 0,⟨(ltrT (senL L.l x.1 r')).toArray⟩) with e| ⟨hn,e⟩
    ·exact h.it y (by rw [←e];exact hy)
    ·have hy:y∈(m.wv.send (L.ps.getD i 0,⟨(ltrT (senL L.l x.1 r')).toArray⟩)).1.items:=hy
     rw [e] at hy;rcases List.mem_append.1 hy with hy|hy
     ·exact h.it y hy
     ·rw [List.mem_singleton] at hy
      subst hy;exact hI
theorem EpOk.on {L:EpL} {N:Nat} {m m':EpM} {is:List Nat} (h:EpOk L N m) (ht:OnTo L.l L.ps m is m') :EpOk L (N+is.length) m':=by
 induction ht with
 |nil=>exact h
 |snoc _ hs ih=>
  have:=ih.step hs
  rwa [List.length_append,List.length_singleton,←Nat.add_assoc]
def eachL (s:Nat) :List Nat:=(List.range 48).filter fun j=>s.testBit j
theorem low_filter (p:Nat→Bool) (k:Nat) (hk:p k=true) (hl: ∀j<k,p j=false) : ∀n,k<n→(List.range n).filter p=k :: (List.range n).filter fun j=>p j && decide (j≠k)
 |0,h=>by omega
 |n+1,h=>by
  rw [List.range_succ,List.filter_append,List.filter_append];by_cases e:k=n
  ·subst e
   have h1: (List.range k).filter p= []:=List.filter_eq_nil_iff.2 fun j hj=>by rw [hl j (List.mem_range.1 hj)];simp
   have h2: ((List.range k).filter fun j=>p j && decide (j≠k)) = []:=List.filter_eq_nil_iff.2 fun j hj=>by rw [hl j (List.mem_range.1 hj)];simp
   rw [h1,h2];simp [hk]
  ·rw [low_filter p k hk hl n (by omega)]
   have hn: ¬n=k:=fun c=>e c.symm
   have: [n].filter (fun j=>p j && decide (j≠k)) = [n].filter p:=by
    apply List.filter_congr
    intro j hj;obtain rfl:=List.mem_singleton.1 hj;simp [hn]
   rw [this]
   rfl
theorem drop_low {s:Nat} (hs:s≠0) (hlt:s<2^64) : (∀j,(s &&& (s - 1)).testBit j= (s.testBit j && decide (j≠Go.Lib.ctz 64 s)))∧s.testBit (Go.Lib.ctz 64 s) =true∧(∀j<Go.Lib.ctz 64 s,s.testBit j=false)∧s &&& (s - 1) <s:=by
 unfold Go.Lib.ctz;rw [if_neg hs];obtain⟨m,e,hk⟩:=Go.Lib.ctzFrom_spec 64 s (by omega) hlt;generalize hkk:Go.Lib.ctzFrom 64 s=k at*;clear hkk;have hp:=Nat.two_pow_pos k
 have b1: ∀j,s.testBit j=if j<k then false else (2*m+1).testBit (j - k):=fun j=>by
  have:=Nat.testBit_two_pow_mul_add (2*m+1) (b:=0) (i:=k) hp j;rw [Nat.add_zero,←e] at this;rw [this];simp
 have e2:s - 1=2^k* (2*m) + (2^k - 1):=by
  rw [Nat.mul_add,Nat.mul_one] at e;omega
 have b2: ∀j,(s - 1).testBit j=if j<k then (2^k - 1).testBit j else (2*m).testBit (j - k):=fun j=>by
  rw [e2];exact Nat.testBit_two_pow_mul_add (2*m) (by omega) j
 refine⟨fun j=> ?_,?_,fun j hj=>by rw [b1,if_pos hj],?_⟩
 ·rw [Nat.testBit_and,b1,b2]
  by_cases h:j<k
  ·simp [h]
  ·rw [if_neg h,if_neg h]
   by_cases h2:j=k
   ·subst h2
    simp
   ·obtain⟨d,hd⟩ : ∃d,j - k=d+1:=⟨j - k - 1,by omega⟩
    rw [hd,Nat.testBit_succ,Nat.testBit_succ];have d1: (2*m+1) / 2=m:=by omega
    have d2: (2*m) / 2=m:=by omega
    rw [d1,d2];simp [h2]
 ·rw [b1,if_neg (Nat.lt_irrefl k),Nat.sub_self]
  simp
 ·exact Nat.lt_of_le_of_lt Nat.and_le_right (by omega)
theorem eachL_zero:eachL 0= []:=by
 unfold eachL;rw [List.filter_eq_nil_iff];intro j _;simp
theorem eachL_step {s:Nat} (hs:s≠0) (hlt:s<2^48) :eachL s=Go.Lib.ctz 64 s :: eachL (s &&& (s - 1))∧Go.Lib.ctz 64 s<48∧s &&& (s - 1) <s:=by
 obtain⟨h1,h2,h3,h4⟩:=drop_low hs (by omega)
 have hk:Go.Lib.ctz 64 s<48:=by
  apply Nat.lt_of_not_le
  intro c;rw [Nat.testBit_lt_two_pow (Nat.lt_of_lt_of_le hlt (Nat.pow_le_pow_right (by decide) c))] at h2
  cases h2
 refine⟨?_,hk,h4⟩;unfold eachL;rw [low_filter _ _ h2 h3 48 hk]
 congr 1
 apply List.filter_congr
 intro j _;rw [h1]
def kidF (ps:List Int) (i:Int) :Nat→Nat
 |0=>0
 |m+1=>if ps[m]? =some i then withC (kidF ps i m) m else kidF ps i m
def kidsC (ps:List Int) (i:Int) :Nat:=kidF ps i ps.length
theorem hasN_bit (s j:Nat) :hasN s j=s.testBit j:=by rw [hasN,Nat.testBit_eq_decide_div_mod_eq]
theorem withC_bit {s i:Nat} (hi:i<48) (j:Nat) : (withC s i).testBit j= (s.testBit j || decide (i=j)):=by
 have hc:isCrew (i:Int) =true:=by simp only [isCrew,decide_eq_true_eq];omega
 unfold withC;rw [if_pos hc,hasN_bit,Int.toNat_natCast];by_cases hb:s.testBit i=true
 ·rw [if_pos hb]
  by_cases hij:i=j
  ·subst hij;simp [hb]
  ·simp [hij]
 ·rw [if_neg hb]
  have hb':s.testBit i=false:=by simpa using hb
  rw [Nat.add_comm,or_two_pow_add hb',Nat.testBit_or,Nat.testBit_two_pow]
theorem kidF_bit (ps:List Int) (i:Int) : ∀(m:Nat),m≤48→∀j,(kidF ps i m).testBit j= (decide (j<m) && decide (ps[j]? =some i))
 |0,_,j=>by simp [kidF]
 |m+1,hm,j=>by
  have IH:=kidF_bit ps i m (by omega) j;unfold kidF
  split
  ·rename_i h
   rw [withC_bit (by omega),IH];by_cases hj:m=j
   ·subst hj
    simp [h]
   ·have: (j<m+1) = (j<m):=by apply propext;omega
    simp [hj,this]
  ·rename_i h
   rw [IH];by_cases hj:j=m
   ·subst hj
    simp [h]
   ·have: (j<m+1) = (j<m):=by apply propext;omega
    simp [this]
theorem kidF_lt (ps:List Int) (i:Int) {m:Nat} (hm:m≤48) :kidF ps i m<2^m:=by
 apply Nat.lt_pow_two_of_testBit
 intro j hj;rw [kidF_bit ps i m hm j];simp;omega
theorem each_kids {ps:List Int} (h:ps.length≤48) (i:Nat) :eachL (kidsC ps i) =kidsN ps i:=by
 unfold eachL kidsN kidsC
 have key: ∀n,ps.length≤n→(List.range n).filter (fun j=>(kidF ps i ps.length).testBit j) = (List.range ps.length).filter fun k=>decide (ps[k]? =some (i:Int)):=by
  intro n
  induction n with
  |zero=>
   intro hn;have:ps.length=0:=by omega
   rw [this];rfl
  |succ n ih=>
   intro hn;by_cases e:ps.length=n+1
   ·rw [e]
    apply List.filter_congr
    intro j hj;rw [←e,kidF_bit ps i _ h];have:=List.mem_range.1 hj;simp;omega
   ·rw [List.range_succ,List.filter_append,ih (by omega)]
    have: (kidF ps i ps.length).testBit n=false:=by
     rw [kidF_bit ps i _ h];simp;omega
    simp [this]
 exact key 48 h
end Go.Proofs.YtlgnakobjkhmhaaGreatDoor
