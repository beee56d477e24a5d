/-
  Texts of this proof, one behind the other: Ref10Pour, Told31, CountLaw, Cnt31, SensorCountsW.
-/
import Derived.Test.YtandlhihcnadmaaGreatQ2
import Derived.Test.YtandlhihcnadmaaGreatQ4
import Derived.Test.YtandlhihcnadmaaGreatQ5
import Derived.Test.YtandlhihcnadmaaGreatQ6
import Derived.Test.YtandlhihcnadmaaGreatQ8
import Derived.Test.YtandlhihcnadmaaGreatQ9
import Derived.Test.YtandlhihcnadmaaGreatQ10
import Derived.Test.YtandlhihcnadmaaGreatQ11
set_option linter.unusedVariables false
set_option linter.unusedSimpArgs false
set_option maxRecDepth 100000
set_option maxHeartbeats 16000000
namespace Go.Proofs.YtandlhihcnadmaaGreat
open Go.ChangeShapes Go.WideShapes Go.ChangeAt Go.RowKit
theorem pour_take {ma mb:List Nd} {q:Nat} (h:q<mb.length) :pourL ma (mb.take (q+1)) =addR (pourL ma (mb.take q)) mb[q].1 mb[q].2:=by
 rw [List.take_succ_eq_append_getElem h,pourL_snoc]
theorem pourL_len (ma:List Nd) : ∀(mb:List Nd),(pourL ma mb).length≤ma.length+mb.length:=by
 intro mb
 induction mb generalizing ma with
 |nil=>simp [pourL]
 |cons x mb ih=>
  have h1:=ih (addR ma x.1 x.2);have h2:=addR_len ma x.1 x.2;simp only [pourL,List.foldl_cons,List.length_cons] at h1⊢;omega
theorem pour_part {l:Nat} {ma mb:List Nd} (ha:BagL l ma) (hb:BagL l mb) (hs:sumR ma+sumR mb≤72057594037927935) {q:Nat} (h:q<mb.length) :
 BagL l (pourL ma (mb.take q))∧sumR (pourL ma (mb.take q)) +mb[q].2≤72057594037927935∧1≤mb[q].2:=by
 have h1:=sumR_take_succ h
 have hr: ∀k,sumR (mb.take k)≤sumR mb:=fun k=>by
  have e:sumR (mb.take k ++ mb.drop k) =sumR mb:=by rw [List.take_append_drop]
  have:=(sumR_pos fun y hy=>(hb.val y (List.mem_of_mem_drop (i:=k) hy)).2.2).1;rw [sumR_append] at e;omega
 have h2:=hr (q+1);have h3:=(hb.val _ (List.getElem_mem h)).2.2;obtain⟨i1,i2,_⟩:=pour_leaves (mb:=mb.take q) ha (fun x hx=>hb.val x (List.mem_of_mem_take hx)) (by have:=hr q;omega);exact⟨i1,by omega,h3⟩
structure PourS (w:World) (l:Nat) (A:Option Addr) (ca:Nat) (ma:List Nd) (B:Option Addr) (cb:Nat) (mb:List Nd) (W:World) :Prop where
 x:W.heap[w.heap.size]? =some (.cells #[.int .i64 l,.slice A ma.length ca] 58 (0,0))
 y:W.heap[w.heap.size+1]? =some (.cells #[.int .i64 l,.slice B mb.length cb] 58 (0,0))
 z:W.heap[w.heap.size+2]? =some (.cells #[.int .i64 0,.slice none 0 0] 58 (0,0))
 s:SlT W 142 encN A ma
 t:SlT W 142 encN B mb
 blw:Below w.heap.size w W
theorem PourS.below {w:World} {l:Nat} {A:Option Addr} {ca:Nat} {ma:List Nd} {B:Option Addr} {cb:Nat} {mb:List Nd} {W W':World} (h:PourS w l A ca ma B cb mb W) (hb:Below W.heap.size W W') :PourS w l A ca ma B cb mb W':=
 ⟨bB h.x hb,bB h.y hb,bB h.z hb,h.s.below hb,h.t.below hb,h.blw.trans (hb.mono h.blw.size)⟩
theorem slT_cell {w:World} {e:TypeId} {b off q:Nat} {mb:List Nd} {x:Nd} (h:SlT w e encN (some ⟨b,off,none⟩) mb) (hx:mb[q]? =some x) :
 w.cell? ⟨b,off+q*2,none⟩ =some (.int .i64 x.1)∧w.cell? ⟨b,off+q*2+1,none⟩ =some (.int .i64 x.2):=by
 obtain⟨hq,rfl⟩:=List.getElem?_eq_some_iff.1 hx;exact⟨by have:=h.cell_at hq 0 (.int .i64 mb[q].1) rfl;simpa using this,h.cell_at hq 1 (.int .i64 mb[q].2) rfl⟩
structure PourB (w:World) (l:Nat) (A:Option Addr) (ca:Nat) (ma:List Nd) (B:Option Addr) (cb:Nat) (mb:List Nd) (p6:Nat) (A':Option Addr) (c':Nat) (m:List Nd) (W:World) :Prop where
 a:PourS w l A ca ma B cb mb W
 p:W.heap[p6]? =some (.cells #[.int .i64 l,.slice A' m.length c'] 58 (0,0))
 u:SlT W 142 encN A' m
 lt:w.heap.size+2<p6
section
variable {w:World} {l:Nat} {A:Option Addr} {ca:Nat} {ma:List Nd} {B:Option Addr} {cb:Nat} {mb:List Nd} {p6:Nat} {A':Option Addr} {c':Nat} {m m2:List Nd} {A2:Option Addr} {c2:Nat} {W W':World}
theorem PourB.below (h:PourB w l A ca ma B cb mb p6 A' c' m W) (hb:Below W.heap.size W W') :PourB w l A ca ma B cb mb p6 A' c' m W':=⟨h.a.below hb,bB h.p hb,h.u.below hb,h.lt⟩
theorem PourB.set (h:PourB w l A ca ma B cb mb p6 A' c' m W) (hu:SlT W 142 encN A2 m2) :PourB w l A ca ma B cb mb p6 A2 c2 m2 ((W.setCell ⟨p6,0,none⟩ (.int .i64 l)).setCell ⟨p6,1,none⟩ (.slice A2 m2.length c2)):=by
 have hlt:=h.lt;have ne: ∀b,b≠p6→((W.setCell ⟨p6,0,none⟩ (.int .i64 l)).setCell ⟨p6,1,none⟩ (.slice A2 m2.length c2)).heap[b]? =W.heap[b]? :=fun b hb=>(Below.heap_setCell _ _ _ _ hb).trans (Below.heap_setCell _ _ _ _ hb);have tp:TypeAt W p6 58:=.of h.p;have tp2:TypeAt (W.setCell ⟨p6,0,none⟩ (.int .i64 l)) p6 58:=.of (set_nil h.p);have st: ∀{X:Option Addr} {x:List Nd},SlT W 142 encN X x→SlT ((W.setCell ⟨p6,0,none⟩ (.int .i64 l)).setCell ⟨p6,1,none⟩ (.slice A2 m2.length c2)) 142 encN X x:=fun hx=>(hx.setCellT (p:=⟨p6,0,none⟩) tp (by decide)).setCellT (p:=⟨p6,1,none⟩) tp2 (by decide);exact⟨⟨(ne _ (by omega)).trans h.a.x,(ne _ (by omega)).trans h.a.y,(ne _ (by omega)).trans h.a.z,st h.a.s,st h.a.t,(h.a.blw.setCell (p:=⟨p6,0,none⟩) (by show w.heap.size≤p6;omega) _).setCell (p:=⟨p6,1,none⟩) (by show w.heap.size≤p6;omega) _⟩,set_one (set_nil h.p),st hu,hlt⟩
end
theorem ref10_Pour (w:World) (l:Nat) (A:Option Addr) (ca:Nat) (ma:List Nd) (B:Option Addr) (cb:Nat) (mb:List Nd) (hSa:SlT w 142 encN A ma) (hSb:SlT w 142 encN B mb) (ha:BagL l ma) (hb:BagL l mb) (hs:sumR ma+sumR mb≤72057594037927935) (hla:ma.length≤30000) (hlb:mb.length≤30000) :
 Calls Tryz.prog 72 #[bagV l A ma.length ca,bagV l B mb.length cb] w fun e w'=>∃A' cap',e=.returned (.tuple #[bagV l A' (pourL ma mb).length cap',.int .i64 0])∧SlT w' 142 encN A' (pourL ma mb)∧Below w.heap.size w w':=by
 have a0:=ha.sum0;have b0:=hb.sum0;have HTa:=LH (fun W h=>ref10_Total W l A ca ma h (fun x hx=>(ha.val x hx).2.2) ha.sum);have HTb:=LH (fun W h=>ref10_Total W l B cb mb h (fun x hx=>(hb.val x hx).2.2) hb.sum);have hgt:decide (72057594037927935 - sumR ma<sumR mb) =false:=by simp;omega
 have S0:Hid (PourS w l A ca ma B cb mb (((w.alloc (.cells #[.int .i64 l,.slice A ma.length ca] 58)).alloc (.cells #[.int .i64 l,.slice B mb.length cb] 58)).alloc (.cells #[.int .i64 0,.slice none 0 0] 58))):=LH
  ⟨((heap_new_lt _ _ _ (by simp;omega)).trans (heap_new_lt _ _ _ (by simp))).trans (heap_alloc_new w _),(heap_new_lt _ _ _ (by simp)).trans (heap_new_at (w.alloc _) _ _ (by simp)),heap_new_at ((w.alloc _).alloc _) _ _ (by simp),((hSa.alloc _).alloc _).alloc _,((hSb.alloc _).alloc _).alloc _,bE⟩
 unfold bagV at HTa HTb⊢;clear hSa hSb
 go_enter Tryz.func72,Tryz.ntmps72
 go_upto_region 1 with fail;generalize ((w.alloc (.cells #[.int .i64 l,.slice A ma.length ca] 58)).alloc (.cells #[.int .i64 l,.slice B mb.length cb] 58)).alloc (.cells #[.int .i64 0,.slice none 0 0] 58) =W0 at S0⊢;have x0:=bC S0.out.x;have xz:=lB S0.out.x;have y0:=bC S0.out.y;have yz:=lB S0.out.y;go_upto_region 3 with fail;refine rX (by kernel_rfl) (by kernel_rfl) ?_
 repeat (go_big_quiet_step (first| (go_at_call_of 25 (Value.slice B mb.length cb);exact quiet_ext (HTb.out _ ((S0.out.t.below (ext_below _ _)).sl))) | (go_at_call 25;exact quiet_ext (HTa.out _ ((S0.out.s.below (ext_below _ _)).sl)))))
 refine wpQuiet_nil ?_;intro w2 hb2;have S2:=LH (S0.out.below (bX hb2));clear hb2 x0 xz y0 yz S0 HTa HTb;have x0:=bC S2.out.x;have xz:=lB S2.out.x;go_upto_region 6 with fail;have al:=(Below.refl w2.heap.size w2).alloc (Nat.le_refl _) (.cells #[.int .i64 l,.slice A ma.length ca] 58);have R3:Hid (PourB w l A ca ma B cb mb w2.heap.size A ca ma (w2.alloc (.cells #[.int .i64 l,.slice A ma.length ca] 58))):=LH ⟨S2.out.below al,heap_alloc_new w2 _,S2.out.s.below al,lB S2.out.z⟩;obtain⟨p6,hp6⟩ : ∃q,q=w2.heap.size:=⟨_,rfl⟩;rw [←hp6] at R3⊢;generalize w2.alloc (.cells #[.int .i64 l,.slice A ma.length ca] 58) =w3 at R3⊢;clear hp6 al x0 xz S2;have HPt:=LH (fun q (hq:q<mb.length)=>pour_part ha hb hs hq);have HLn:=LH (fun q=>pourL_len ma (mb.take q));clear ha hb hs a0 b0 hgt;go_wp2_with fail
 go_loopw [7] (fun i wr=>∃(q:Nat) (A':Option Addr) (c':Nat),q≤mb.length∧i=.int .i64 q∧PourB w l A ca ma B cb mb p6 A' c' (pourL ma (mb.take q)) wr) (fun i _=>mb.length - (intOf i).toNat)
 case atStart=>exact⟨0,A,ca,Nat.zero_le _,rfl,R3.out⟩
 case round=>
  obtain⟨q,A',c',hq,rfl,hR⟩:=hrel;have R:=LH hR;clear hR;have y0:=bC R.out.a.y;have yz:=lB R.out.a.y;by_cases hlt:q<mb.length
  ·have i1: (q:Int) < (mb.length:Int):=by omega
   have hpt:=HPt.out q hlt;have hln:=HLn.out q;have hln2: (mb.take q).length≤q:=by rw [List.length_take];omega
   have HT:=LH (pour_take (ma:=ma) hlt);obtain⟨b,off,rfl,hTb,_⟩:=R.out.a.t.at_ hlt;have HXq:Hid (mb[q]? =some mb[q]):=LH (List.getElem?_eq_getElem hlt);generalize mb[q] =x at hpt HT HXq;obtain⟨M,hM⟩ : ∃M,M=pourL ma (mb.take q):=⟨_,rfl⟩;rw [←hM] at R hpt hln HT;have HPu:=LH (fun W h=>ref10_put W l A' c' M x.1 x.2 h hpt.1.up (fun z hz=>(hpt.1.val z hz).2.2) hpt.2.2 hpt.2.1 (by omega));unfold bagV at HPu;clear hM hpt hTb;go_upto_region 9 with fail;refine wp_region_noPanic ?_;refine wp_region_N (fun W'=>PourB w l A ca ma (some ⟨b,off,none⟩) cb mb p6 A' c' M W') [14] (by kernel_rfl) (R.out.below (Below.drew (Below.refl _ _))) (fun hHeld=> ?_);have R5:=LH hHeld;refine nT 0 (Value.agg #[.int .i64 l,.slice A' M.length c']) (y:=Or.inl ⟨by rfl,fun W hW=>by have q1:=bC hW.a.y;have q2:=lB hW.a.y;have q3:=bC hW.p;have q4:=lB hW.p;obtain⟨q5,q6⟩:=slT_cell hW.a.t HXq.out;go_simp⟩) (s:=R5.out) (h:= ?_)
   (try simp only [zA,zB,zC,Act.put,zD,zE,zF])
   refine nP 1 (Value.pointer (some ⟨w.heap.size+1,1,none⟩)) (h:= ?_)
   (try simp only [zA,zB,zC,Act.put,zD,zE,zF])
   refine nT 2 (Value.slice (some ⟨b,off,none⟩) mb.length cb) (y:=Or.inl ⟨by rfl,fun W hW=>by have q1:=bC hW.a.y;have q2:=lB hW.a.y;have q3:=bC hW.p;have q4:=lB hW.p;obtain⟨q5,q6⟩:=slT_cell hW.a.t HXq.out;go_simp⟩) (s:=R5.out) (h:= ?_)
   (try simp only [zA,zB,zC,Act.put,zD,zE,zF])
   refine nP 3 (Value.int .i64 q) (h:= ?_)
   (try simp only [zA,zB,zC,Act.put,zD,zE,zF])
   refine nP 4 (Value.pointer (some ⟨b,off+q*2,none⟩)) (h:= ?_)
   (try simp only [zA,zB,zC,Act.put,zD,zE,zF])
   refine nP 5 (Value.pointer (some ⟨b,off+q*2,none⟩)) (h:= ?_)
   (try simp only [zA,zB,zC,Act.put,zD,zE,zF])
   refine nT 6 (Value.int .i64 x.1) (y:=Or.inl ⟨by rfl,fun W hW=>by have q1:=bC hW.a.y;have q2:=lB hW.a.y;have q3:=bC hW.p;have q4:=lB hW.p;obtain⟨q5,q6⟩:=slT_cell hW.a.t HXq.out;go_simp⟩) (s:=R5.out) (h:= ?_)
   (try simp only [zA,zB,zC,Act.put,zD,zE,zF])
   refine nP 7 (Value.pointer (some ⟨w.heap.size+1,1,none⟩)) (h:= ?_)
   (try simp only [zA,zB,zC,Act.put,zD,zE,zF])
   refine nT 8 (Value.slice (some ⟨b,off,none⟩) mb.length cb) (y:=Or.inl ⟨by rfl,fun W hW=>by have q1:=bC hW.a.y;have q2:=lB hW.a.y;have q3:=bC hW.p;have q4:=lB hW.p;obtain⟨q5,q6⟩:=slT_cell hW.a.t HXq.out;go_simp⟩) (s:=R5.out) (h:= ?_)
   (try simp only [zA,zB,zC,Act.put,zD,zE,zF])
   refine nP 9 (Value.int .i64 q) (h:= ?_)
   (try simp only [zA,zB,zC,Act.put,zD,zE,zF])
   refine nP 10 (Value.pointer (some ⟨b,off+q*2,none⟩)) (h:= ?_)
   (try simp only [zA,zB,zC,Act.put,zD,zE,zF])
   refine nP 11 (Value.pointer (some ⟨b,off+q*2+1,none⟩)) (h:= ?_)
   (try simp only [zA,zB,zC,Act.put,zD,zE,zF])
   refine nT 12 (Value.int .i64 x.2) (y:=Or.inl ⟨by rfl,fun W hW=>by have q1:=bC hW.a.y;have q2:=lB hW.a.y;have q3:=bC hW.p;have q4:=lB hW.p;obtain⟨q5,q6⟩:=slT_cell hW.a.t HXq.out;go_simp⟩) (s:=R5.out) (h:= ?_)
   (try simp only [zA,zB,zC,Act.put,zD,zE,zF])
   refine nO (i:=13) (by kernel_rfl) rfl (fun K hK=> ?_);go_simp;refine(HPu.out wr.drew R5.out.u.sl).mono ?_;rintro e w5 ⟨A2,c2,rfl,hu,hb5⟩;have R6:=LH (R5.out.below hb5);have U6:=LH hu;clear hb5 hu;refine hK.out _ _ (fun _ _=>R6.out) ?_;clear hK K
   (try simp only [zA,zB,zC,Act.put,zD,zE,zF])
   have pf:=bF R6.out.p;have pc:=bC R6.out.p;have pz:=lB R6.out.p;refine nO (i:=14) (by kernel_rfl) rfl (fun K hK=> ?_);go_simp;refine hK.out _ _ (fun h _=>absurd (List.mem_singleton.2 rfl) h) ?_;clear hK K pf pc pz
   (try simp only [zA,zB,zC,Act.put,zD,zE,zF])
   refine nD (by kernel_rfl) ?_ _;refine NoPanic.normal ?_;have R7:=LH (R6.out.set (c2:=c2) U6.out);clear R5 R6 U6 R y0 yz HPu;go_wp2_with fail;go_roundw
   case rel=>exact⟨q+1,A2,c2,by omega,by go_num,by rw [HT.out];exact R7.out⟩
   case measure=>simp [intOf];omega
  ·have hqe:q=mb.length:=by omega
   have hqi:decide ((q:Int) < (mb.length:Int)) =false:=by simp;omega
   have R2:Hid (PourB w l A ca ma B cb mb p6 A' c' (pourL ma mb) wr):=LH (by have:=R.out;rwa [hqe,List.take_length] at this);clear hqe R y0 yz;have y0:=bC R2.out.a.y;have yz:=lB R2.out.a.y;have p0:=bC R2.out.p;have pz:=lB R2.out.p;have z0:=bC R2.out.a.z;have zz:=lB R2.out.a.z;have zf:=bF R2.out.a.z;go_wp2_with fail;refine bR (v:=.tuple #[.agg #[.int .i64 l,.slice A' (pourL ma mb).length c'],.int .i64 0]) (by simp only [results,Tryz.results72];go_simp) rfl ⟨A',c',rfl,?_,?_⟩
   ·exact(R2.out.u.setCellT (p:=⟨w.heap.size+2,0,none⟩) (.of R2.out.a.z) (by decide)).setCellT (p:=⟨w.heap.size+2,1,none⟩) (.of (set_nil R2.out.a.z)) (by decide)
   ·exact(R2.out.a.blw.setCell (p:=⟨w.heap.size+2,0,none⟩) (by show w.heap.size≤w.heap.size+2;omega) _).setCell (p:=⟨w.heap.size+2,1,none⟩) (by show w.heap.size≤w.heap.size+2;omega) _
theorem bagL3_snoc (l:Nat) : ∀(L:List Op3) (m:List Nd) (o:Op3),bagL3 l m (L ++ [o]) =if o.1=1 then bagL3 l m L else if o.1=2 then [] else (addB l (bagL3 l m L) o.2.1 o.2.2).1:=by
 intro L
 induction L with
 |nil=>intro m o;rfl
 |cons p L ih=>intro m o;exact ih _ o
theorem bagL3_bag {l:Nat} : ∀(L:List Op3) {m:List Nd},BagL l m→BagL l (bagL3 l m L):=by
 intro L
 induction L with
 |nil=>intro m h;exact h
 |cons p L ih=>
  intro m h;refine ih ?_
  split
  ·exact h
  ·split
   ·exact .nil l
   ·exact h.addB _ _
theorem bagL3_len {l:Nat} : ∀(L:List Op3) (m:List Nd),(bagL3 l m L).length≤m.length+L.length:=by
 intro L
 induction L with
 |nil=>intro m;simp [bagL3]
 |cons p L ih=>
  intro m;have h:=ih (if p.1=1 then m else if p.1=2 then [] else (addB l m p.2.1 p.2.2).1)
  have h2: (if p.1=1 then m else if p.1=2 then [] else (addB l m p.2.1 p.2.2).1).length≤m.length+1:=by
   split
   ·omega
   ·split
    ·simp
    ·exact addB_len l m _ _
  show (bagL3 l (if p.1=1 then m else if p.1=2 then [] else (addB l m p.2.1 p.2.2).1) L).length≤m.length+ (L.length+1)
  omega
structure ToldR (w:World) (l:Nat) (A:Option Addr) (ca:Nat) (m:List Nd) (B:Option Addr) (cb:Nat) (mb:List Nd) (W:World) :Prop where
 x:W.heap[w.heap.size]? =some (.cells #[.int .i64 l,.slice A m.length ca] 58 (0,0))
 z:W.heap[w.heap.size+1]? =some (.cells #[.int .i64 0,.slice none 0 0] 58 (0,0))
 y:W.heap[w.heap.size+2]? =some (.cells #[.int .i64 l,.slice B mb.length cb] 58 (0,0))
 sa:SlT W 142 encN A m
 sb:SlT W 142 encN B mb
 b:Below w.heap.size w W
section
variable {w W W':World} {l:Nat} {A B B2:Option Addr} {ca cb cb2:Nat} {m mb mb2:List Nd}
theorem ToldR.below (h:ToldR w l A ca m B cb mb W) (hb:Below W.heap.size W W') :ToldR w l A ca m B cb mb W':=⟨bB h.x hb,bB h.z hb,bB h.y hb,h.sa.below hb,h.sb.below hb,Below.then_ h.b hb⟩
theorem ToldR.set1 (h:ToldR w l A ca m B cb mb W) (hs:SlT W 142 encN B2 mb2) :ToldR w l A ca m B2 cb2 mb2 (W.setCell ⟨w.heap.size+2,1,none⟩ (.slice B2 mb2.length cb2)):=by
 have e: ∀q,q≠w.heap.size+2→(W.setCell ⟨w.heap.size+2,1,none⟩ (.slice B2 mb2.length cb2)).heap[q]? =W.heap[q]? :=fun q hq=>Below.heap_setCell _ _ _ _ hq;exact⟨(e _ (by omega)).trans h.x,(e _ (by omega)).trans h.z,zH (i:=1) h.y _,h.sa.setCellT (t:=58) (.of h.y) (by decide),hs.setCellT (t:=58) (.of h.y) (by decide),h.b.setCell (p:=⟨w.heap.size+2,1,none⟩) (by simp) _⟩
theorem ToldR.set2 (h:ToldR w l A ca m B cb mb W) (hs:SlT W 142 encN B2 mb2) :ToldR w l A ca m B2 cb2 mb2 ((W.setCell ⟨w.heap.size+2,0,none⟩ (.int .i64 l)).setCell ⟨w.heap.size+2,1,none⟩ (.slice B2 mb2.length cb2)):=by
 have e: ∀q,q≠w.heap.size+2→(W.setCell ⟨w.heap.size+2,0,none⟩ (.int .i64 l)).heap[q]? =W.heap[q]? :=fun q hq=>Below.heap_setCell _ _ _ _ hq;have h1:ToldR w l A ca m B cb mb (W.setCell ⟨w.heap.size+2,0,none⟩ (.int .i64 l)):=⟨(e _ (by omega)).trans h.x,(e _ (by omega)).trans h.z,zH (i:=0) h.y _,h.sa.setCellT (t:=58) (.of h.y) (by decide),h.sb.setCellT (t:=58) (.of h.y) (by decide),h.b.setCell (p:=⟨w.heap.size+2,0,none⟩) (by simp) _⟩;exact h1.set1 (hs.setCellT (t:=58) (.of h.y) (by decide))
theorem ToldR.first (w:World) (l:Nat) (A:Option Addr) (ca:Nat) (m:List Nd) (h:SlT w 142 encN A m) :
 ToldR w l A ca m none 0 [] (((w.alloc (.cells #[.int .i64 l,.slice A m.length ca] 58)).alloc (.cells #[.int .i64 0,.slice none 0 0] 58)).alloc (.cells #[.int .i64 l,.slice none 0 0] 58)):=by
 have a1:=(Below.refl w.heap.size w).alloc (Nat.le_refl _) (.cells #[.int .i64 l,.slice A m.length ca] 58);have s1: (w.alloc (.cells #[.int .i64 l,.slice A m.length ca] 58)).heap.size=w.heap.size+1:=by simp
 have h1: (w.alloc (.cells #[.int .i64 l,.slice A m.length ca] 58)).heap[w.heap.size]? =_:=heap_alloc_new w _;generalize w.alloc (.cells #[.int .i64 l,.slice A m.length ca] 58) =w1 at a1 s1 h1⊢;have a2:=(Below.refl w1.heap.size w1).alloc (Nat.le_refl _) (.cells #[.int .i64 0,.slice none 0 0] 58);have s2: (w1.alloc (.cells #[.int .i64 0,.slice none 0 0] 58)).heap.size=w1.heap.size+1:=by simp
 have h2: (w1.alloc (.cells #[.int .i64 0,.slice none 0 0] 58)).heap[w1.heap.size]? =_:=heap_alloc_new w1 _;generalize w1.alloc (.cells #[.int .i64 0,.slice none 0 0] 58) =w2 at a2 s2 h2⊢;have a3:=(Below.refl w2.heap.size w2).alloc (Nat.le_refl _) (.cells #[.int .i64 l,.slice none 0 0] 58);have h3: (w2.alloc (.cells #[.int .i64 l,.slice none 0 0] 58)).heap[w2.heap.size]? =_:=heap_alloc_new w2 _;rw [s1] at h2;rw [s2,s1] at h3;exact⟨bB (bB h1 a2) a3,bB h2 a3,h3,((h.below a1).below a2).below a3,.nil,Below.then_ (Below.then_ a1 a2) a3⟩
end
def ToldPost (l:Nat) (m:List Nd) (L:List Op3) (w:World) (e:Ending) (w':World) :Prop:=
 ∃(A':Option Addr) (c':Nat),e=.returned (bagV l A' (pourL m (bagL3 l [] L)).length c')∧SlT w' 142 encN A' (pourL m (bagL3 l [] L))∧Below w.heap.size w w'
theorem law31_told (w:World) (l:Nat) (A:Option Addr) (ca:Nat) (m:List Nd) (Ao:Option Addr) (co:Nat) (L:List Op3) (hl:1≤l∧l≤48) (hS:SlT w 142 encN A m) (hm:BagL l m) (hO:Sl w w.heap.size encO Ao L) (hI:intsO L) (hn:L.length≤20) (hml:m.length≤20000) (hs:sumR m+sumR (bagL3 l [] L)≤72057594037927935) :
 Calls Tryz.prog 19 #[bagV l A m.length ca,.slice Ao L.length co] w (ToldPost l m L w):=by
 have HP:Hid (∀(A':Option Addr) (c':Nat) (W:World),SlT W 142 encN A' (pourL m (bagL3 l [] L))→Below w.heap.size w W→ToldPost l m L w (.returned (bagV l A' (pourL m (bagL3 l [] L)).length c')) W):=LH fun A' c' W h1 h2=>⟨A',c',rfl,h1,h2⟩;have HO:=LH hO;have HAdd:=LH (fun W (B:Option Addr) (cb:Nat) (mb:List Nd) (x c:Int) (h1:SlT W 142 encN B mb) (h2:BagL l mb) (h3:mb.length≤20) (h4:c≤9223372036854775807)=>ref10_Add W l B cb mb x c hl h1 h2 (by omega) h4);have HPo:=LH (fun W (B:Option Addr) (cb:Nat) (h1:SlT W 142 encN A m) (h2:SlT W 142 encN B (bagL3 l [] L))=>ref10_Pour W l A ca m B cb (bagL3 l [] L) h1 h2 hm (bagL3_bag L (.nil l)) hs (by omega) (by have:=bagL3_len (l:=l) L [];simp at this;omega));have HIn:Hid (∀i (h:i<L.length),(L[i]).2.2≤9223372036854775807):=LH fun i h=>by have:=(hI _ (List.getElem_mem h)).2.2;unfold i64 at this;omega
 have R0:=LH (ToldR.first w l A ca m hS);unfold bagV at HP HAdd HPo⊢;clear hO hI hs hm hS;generalize ToldPost l m L w=PP at HP⊢
 go_enter Tryz.func19,Tryz.ntmps19
 go_upto_region 2 with fail;generalize (((w.alloc (.cells #[.int .i64 l,.slice A m.length ca] 58)).alloc (.cells #[.int .i64 0,.slice none 0 0] 58)).alloc (.cells #[.int .i64 l,.slice none 0 0] 58)) =W0 at R0⊢;go_wp2_with fail
 go_loopw [13] (fun i W=>∃(q:Nat) (B:Option Addr) (cb:Nat) (mb:List Nd),i=.int .i64 q∧q≤L.length∧mb=bagL3 l [] (L.take q)∧ToldR w l A ca m B cb mb W) (fun i _=>L.length - (intOf i).toNat)
 case atStart=>exact⟨0,none,0, [],rfl,Nat.zero_le _,rfl,R0.out⟩
 case round=>
  obtain⟨q,B,cb,mb,rfl,hq,hmb,hR⟩:=hrel;have RR:=LH hR;have HM:=LH hmb;clear hR hmb R0;by_cases hlt:q<L.length
  case neg=>
   obtain rfl:q=L.length:=by omega
   have hqi:decide ((L.length:Int) < (L.length:Int)) =false:=by simp
   have HM2:Hid (mb=bagL3 l [] L):=LH (by have:=HM.out;rwa [List.take_length] at this);have hsb:=RR.out.sb;rw [HM2.out] at hsb;have HPc:=LH (HPo.out wr B cb RR.out.sa hsb);have HLn:Hid ((bagL3 l [] L).length=mb.length):=LH (by rw [HM2.out]);rw [HLn.out] at HPc;generalize pourL m (bagL3 l [] L) =PL at HPc HP;clear hsb HM;have cx:=bC RR.out.x;have zx:=lB RR.out.x;have fx:=bF RR.out.x;have cy:=bC RR.out.y;have zy:=lB RR.out.y;have fy:=bF RR.out.y;have cz:=bC RR.out.z;have zz:=lB RR.out.z;have fz:=bF RR.out.z;go_wp2_with fail;refine HPc.out.mono ?_;rintro e w2 ⟨A2,c2,rfl,hs2,hb⟩;have R2:=LH (RR.out.below hb);have S2:=LH hs2;clear cx zx fx cy zy fy cz zz fz;clear hb hs2 RR HPc HPo;have cx:=bC R2.out.x;have zx:=lB R2.out.x;have fx:=bF R2.out.x;have cy:=bC R2.out.y;have zy:=lB R2.out.y;have fy:=bF R2.out.y;have cz:=bC R2.out.z;have zz:=lB R2.out.z;have fz:=bF R2.out.z;go_upto_region 12 with fail;have X3:Hid ((((w2.setCell ⟨w.heap.size,0,none⟩ (.int .i64 l)).setCell ⟨w.heap.size,1,none⟩ (.slice A2 PL.length c2))).heap[w.heap.size]? =some (.cells #[.int .i64 l,.slice A2 PL.length c2] 58 (0,0))):=LH (zH (i:=1) (zH (i:=0) R2.out.x _) _);have Z3:Hid ((((w2.setCell ⟨w.heap.size,0,none⟩ (.int .i64 l)).setCell ⟨w.heap.size,1,none⟩ (.slice A2 PL.length c2))).heap[w.heap.size+1]? =some (.cells #[.int .i64 0,.slice none 0 0] 58 (0,0))):=LH ((Below.heap_setCell _ _ _ _ (by simp)).trans ((Below.heap_setCell _ _ _ _ (by simp)).trans R2.out.z));have S3:Hid (SlT (((w2.setCell ⟨w.heap.size,0,none⟩ (.int .i64 l)).setCell ⟨w.heap.size,1,none⟩ (.slice A2 PL.length c2))) 142 encN A2 PL):=LH ((S2.out.setCellT (t:=58) (.of R2.out.x) (by decide)).setCellT (t:=58) ((TypeAt.of R2.out.x).setCell) (by decide));have B3:Hid (Below w.heap.size w (((w2.setCell ⟨w.heap.size,0,none⟩ (.int .i64 l)).setCell ⟨w.heap.size,1,none⟩ (.slice A2 PL.length c2)))):=LH ((R2.out.b.setCell (p:=⟨w.heap.size,0,none⟩) (Nat.le_refl _) _).setCell (p:=⟨w.heap.size,1,none⟩) (Nat.le_refl _) _);clear cx zx fx cy zy fy cz zz fz;generalize (((w2.setCell ⟨w.heap.size,0,none⟩ (.int .i64 l)).setCell ⟨w.heap.size,1,none⟩ (.slice A2 PL.length c2))) =w3 at X3 Z3 S3 B3⊢;clear R2 S2;have cx:=bC X3.out;have zx:=lB X3.out;have cz:=bC Z3.out;have zz:=lB Z3.out;have fz:=bF Z3.out;have Y4:Hid ((((w3.setCell ⟨w.heap.size+1,0,none⟩ (.int .i64 l)).setCell ⟨w.heap.size+1,1,none⟩ (.slice A2 PL.length c2))).heap[w.heap.size+1]? =some (.cells #[.int .i64 l,.slice A2 PL.length c2] 58 (0,0))):=LH (zH (i:=1) (zH (i:=0) Z3.out _) _);have S4:Hid (SlT (((w3.setCell ⟨w.heap.size+1,0,none⟩ (.int .i64 l)).setCell ⟨w.heap.size+1,1,none⟩ (.slice A2 PL.length c2))) 142 encN A2 PL):=LH ((S3.out.setCellT (t:=58) (.of Z3.out) (by decide)).setCellT (t:=58) ((TypeAt.of Z3.out).setCell) (by decide));have B4:Hid (Below w.heap.size w (((w3.setCell ⟨w.heap.size+1,0,none⟩ (.int .i64 l)).setCell ⟨w.heap.size+1,1,none⟩ (.slice A2 PL.length c2)))):=LH ((B3.out.setCell (p:=⟨w.heap.size+1,0,none⟩) (by simp) _).setCell (p:=⟨w.heap.size+1,1,none⟩) (by simp) _);go_wp2_with fail;clear cx zx cz zz fz;generalize (((w3.setCell ⟨w.heap.size+1,0,none⟩ (.int .i64 l)).setCell ⟨w.heap.size+1,1,none⟩ (.slice A2 PL.length c2))) =w4 at Y4 S4 B4⊢;have ce:=bC Y4.out;have fe:=bF Y4.out;have ze:=lB Y4.out;exact bR (v:=.agg #[.int .i64 l,.slice A2 PL.length c2]) (by simp only [results,Tryz.results19];go_simp) rfl (HP.out A2 c2 w4 S4.out B4.out)
  have hqi: (q:Int) < (L.length:Int):=by omega
  have HQ1:=LH (show q+1≤L.length from hlt);have HIq:=LH (HIn.out q hlt);have HNx:Hid (bagL3 l [] (L.take (q+1)) =if (L[q]).1=1 then mb else if (L[q]).1=2 then [] else (addB l mb (L[q]).2.1 (L[q]).2.2).1):=LH (by have h:=bagL3_snoc l (L.take q) [] L[q];rw [←HM.out] at h;rw [List.take_succ_eq_append_getElem hlt];exact h);have HBg:Hid (BagL l mb):=LH (by rw [HM.out];exact bagL3_bag _ (.nil l));have HLn:Hid (mb.length≤20):=LH (by have:=bagL3_len (l:=l) (L.take q) [];rw [←HM.out,List.length_take] at this;simp at this;omega);obtain⟨bo,off,rfl,hb,hc⟩:=HO.out.at_ hlt;have bc: ∀p,wr.cell? ⟨bo,p,none⟩ =w.cell? ⟨bo,p,none⟩:=fun p=>RR.out.b.cell (p:=⟨bo,p,none⟩) hb;have d0:=(bc _).trans (hc 0 _ rfl);have d1:=(bc _).trans (hc 1 _ rfl);have d2:=(bc _).trans (hc 2 _ rfl);simp only [Nat.add_zero] at d0;have zb:bo<wr.heap.size:=Nat.lt_of_lt_of_le hb RR.out.b.size;clear hc bc;generalize L[q] =o at HNx HIq d0 d1 d2;obtain⟨o1,o2,o3⟩:=o;dsimp only at HNx HIq d0 d1 d2;go_upto_region 5 with fail;have R1:=LH (RR.out.below ((Below.refl wr.heap.size wr).alloc (Nat.le_refl _) (.cells #[.int .i64 o1,.int .i64 o2,.int .i64 o3] 132)));have X1:=LH (heap_alloc_new wr (.cells #[.int .i64 o1,.int .i64 o2,.int .i64 o3] 132));clear d0 d1 d2 zb hb RR HM;generalize wr.alloc (.cells #[.int .i64 o1,.int .i64 o2,.int .i64 o3] 132) =w1 at R1 X1⊢;generalize wr.heap.size=po at X1⊢;have co:=bC X1.out;have zo:=lB X1.out;by_cases h1:o1=1
  case pos=>
   have hi1: (o1 == 1) =true:=by simpa using h1
   have HN2:=LH (HNx.out.trans (if_pos h1));clear h1 HNx;go_wp2_with fail;go_roundw
   case rel=>exact⟨q+1,B,cb,mb,by go_num,HQ1.out,HN2.out.symm,R1.out⟩
   case measure=>
    have h9:=HQ1.out;simp [intOf];omega
  have hi1: (o1 == 1) =false:=by simpa using h1
  replace HNx:=LH (HNx.out.trans (if_neg h1));clear h1;by_cases h2:o1=2
  case pos=>
   have hi2: (o1 == 2) =true:=by simpa using h2
   have HN2:=LH (HNx.out.trans (if_pos h2));clear h2 HNx;have cy:=bC R1.out.y;have zy:=lB R1.out.y;have fy:=bF R1.out.y;go_upto_region 10 with fail;have R2:=LH (R1.out.set1 (B2:=none) (cb2:=0) (mb2:= []) .nil);simp only [List.length_nil] at R2;clear cy zy fy;clear co zo;generalize w1.setCell ⟨w.heap.size+2,1,none⟩ (.slice none 0 0) =w2 at R2⊢;go_wp2_with fail;go_roundw
   case rel=>exact⟨q+1,none,0, [],by go_num,HQ1.out,HN2.out.symm,R2.out⟩
   case measure=>
    have h9:=HQ1.out;simp [intOf];omega
  have hi2: (o1 == 2) =false:=by simpa using h2
  replace HNx:=LH (HNx.out.trans (if_neg h2));clear h2;have HA:=LH (HAdd.out w1 B cb mb o2 o3 R1.out.sb HBg.out HLn.out HIq.out);obtain⟨m2,hm2⟩ : ∃x,x= (addB l mb o2 o3).1:=⟨_,rfl⟩;generalize (addB l mb o2 o3).2=er at HA;rw [←hm2] at HNx HA;clear hm2;have cy:=bC R1.out.y;have zy:=lB R1.out.y;have fy:=bF R1.out.y;go_wp2_with fail;refine HA.out.mono ?_;rintro e w2 ⟨B2,c2,rfl,hs2,hb⟩;have R2:=LH (R1.out.below hb);have S2:=LH hs2;clear cy zy fy;clear hb hs2 R1 HA co zo HAdd;have cy:=bC R2.out.y;have zy:=lB R2.out.y;have fy:=bF R2.out.y;go_upto_region 10 with fail;have R3:=LH (R2.out.set2 (cb2:=c2) S2.out);clear cy zy fy;generalize ((w2.setCell ⟨w.heap.size+2,0,none⟩ (.int .i64 l)).setCell ⟨w.heap.size+2,1,none⟩ (.slice B2 m2.length c2)) =w3 at R3⊢;clear R2 S2;go_wp2_with fail;go_roundw
  case rel=>exact⟨q+1,B2,c2,m2,by go_num,HQ1.out,HNx.out.symm,R3.out⟩
  case measure=>
   have h9:=HQ1.out;simp [intOf];omega
theorem strip8 (t:List UInt8) : (t.map fun c=>(c.toNat:Int)).map (fun n=>UInt8.ofNat n.toNat) =t:=by
 rw [List.map_map]
 conv=>rhs;rw [←List.map_id t]
 refine List.map_congr_left fun c _=> ?_;simp
theorem spoil_set (t:List UInt8) (a:Nat) (b:Int) : ∃c:UInt8,(spoilT ⟨t.toArray⟩ a b).data.toList=t.set a c:=by
 unfold spoilT;rw [strOfNums_data];refine⟨UInt8.ofNat (xorB ((nums ⟨t.toArray⟩).getD a 0) b).toNat,?_⟩;rw [List.map_set]
 congr 1
 exact strip8 t
theorem turn_set (t:List UInt8) (p:Int) (y:UInt8) :turnT t p y=t∨∃(a:Nat) (c:UInt8) (h:a<t.length),t[a]≠c∧turnT t p y=t.set a c:=by
 unfold turnT
 split
 ·rename_i hp
  obtain⟨c,hc⟩:=spoil_set t p.toNat (y.toNat:Int);have ha:p.toNat<t.length:=by omega
  by_cases he:t[p.toNat] =c
  ·refine .inl ?_
   rw [hc,←he];exact List.set_getElem_self ha
  ·exact .inr ⟨p.toNat,c,ha,he,hc⟩
 ·exact .inl rfl
def sumB (l:List UInt8) :Nat:=(l.map fun c=>c.toNat).sum
theorem sumT_low: ∀(l:List UInt8) (s:Nat×Nat),s.1<65521→(sumT s l).1= (s.1+sumB l) % 65521:=by
 intro l
 induction l with
 |nil=>intro s h;simp [sumT,sumB,Nat.mod_eq_of_lt h]
 |cons b l ih=>
  intro s h;have h1:=ih (sum1 s b) (sum1_lt s b).1;have e:sumB (b :: l) =b.toNat+sumB l:=by simp [sumB]
  show (sumT (sum1 s b) l).1=_
  rw [h1,e];show ((s.1+b.toNat) % 65521+sumB l) % 65521=_
  omega
theorem sumB_set: ∀(l:List UInt8) (a:Nat) (c:UInt8) (h:a<l.length),sumB (l.set a c) + (l[a]).toNat=sumB l+c.toNat:=by
 intro l
 induction l with
 |nil=>intro a c h;simp at h
 |cons b l ih=>
  intro a c h
  cases a with
  |zero=>simp [sumB];omega
  |succ a=>
   have h1:=ih a c (by simpa using h);simp only [sumB,List.set_cons_succ,List.map_cons,List.sum_cons,List.getElem_cons_succ] at h1⊢;omega
theorem bytesL_low {s t:Nat×Nat} (hs:s.1<65521) (ht:t.1<65521) (h:bytesL s=bytesL t) :s.1=t.1:=by
 unfold bytesL at h;simp only [List.cons.injEq,and_true] at h;obtain⟨_,_,h3,h4⟩:=h;have e3:=congrArg UInt8.toNat h3;have e4:=congrArg UInt8.toNat h4;rw [UInt8.toNat_ofNat',UInt8.toNat_ofNat'] at e3 e4;omega
theorem open_spoilt {b t:List UInt8} {a:Nat} {c:UInt8} (ht:t=sealT b) (h:a<t.length) (hne:t[a]≠c) : (openT (t.set a c)).2≠0:=by
 have hl:t.length=b.length+4:=by rw [ht,sealT_len]
 unfold openT;rw [List.length_set,if_neg (by omega),hl,Nat.add_sub_cancel];have hsb: (t.set a c).take b.length= (t.take b.length).set a c:=List.take_set;have htb:t.take b.length=b:=by rw [ht];unfold sealT;simp
 rw [hsb,htb];rw [if_neg]
 ·exact(by decide: (12:Int)≠0)
 ·intro he
  by_cases hab:a<b.length
  ·have e1:sealT (b.set a c) =b.set a c ++ bytesL (sumT (1,0) (b.set a c)):=rfl
   have e2:t.set a c=b.set a c ++ bytesL (sumT (1,0) b):=by
    rw [ht];show (b ++ bytesL (sumT (1,0) b)).set a c=_
    rw [List.set_append_left _ _ hab]
   rw [e1,e2] at he;have h5:=List.append_cancel_left he;have s1:=(sumT_lt (s:=(1,0)) (by decide) (b.set a c)).1;have s2:=(sumT_lt (s:=(1,0)) (by decide) b).1;have h6:=bytesL_low s1 s2 h5;rw [sumT_low _ _ (by decide),sumT_low _ _ (by decide)] at h6;have h7:=sumB_set b a c hab
   have h8:b[a]≠c:=by
    intro hc
    apply hne
    rw [←hc];subst ht;show (b ++ bytesL (sumT (1,0) b))[a] =b[a]
    exact List.getElem_append_left hab
   have h9: (b[a]).toNat≠c.toNat:=fun h=>h8 (UInt8.toNat_inj.1 h);have b1: (b[a]).toNat<256:=UInt8.toNat_lt _;have b2:c.toNat<256:=UInt8.toNat_lt _;simp only at h6;omega
  ·rw [List.set_eq_of_length_le (by omega),←ht] at he
   have h5:=congrArg (fun l=>l[a]?) he;simp only [List.getElem?_set_self h,List.getElem?_eq_getElem h] at h5;exact hne (Option.some.inj h5)
theorem decL_spoilt {x:Ltr} {a:Nat} {c:UInt8} (h:a< (ltrT x).length) (hne: (ltrT x)[a]≠c) : (decL ((ltrT x).set a c)).2≠0:=by
 have h1: (openT ((ltrT x).set a c)).2≠0:=open_spoilt (b:= [68,87,76,1] ++ putB (ltrL x) ++ x.b) rfl h hne;unfold decL;simp only;rw [if_pos h1];exact h1
theorem heard_is {l:Nat} {s:Sen} {r:List Nd} {B:Nt} {tx:List UInt8} (a:Al l s r) (ht:TextTo s.ep B tx) (h0:hearE l s r tx=0) :
 ∃d,isDig B.l B.k 2=true∧OfTo B.l.toNat B.k [] B.ops d∧decL tx= (⟨wrap64 (s.ep+B.on),B.fr,B.cover,wireT B.l.toNat B.k d⟩,0)∧rightL ⟨wrap64 (s.ep+B.on),B.fr,B.cover,wireT B.l.toNat B.k d⟩ =true:=by
 have hd: (decL tx).2=0:=by
  unfold hearE at h0
  split at h0
  ·rename_i h1;exact absurd h0 h1
  ·rename_i h1;simpa using h1
 have hnil: (decL []).2≠0:=by decide
 rcases ht with ⟨_,rfl⟩ | ⟨hz,d,ho,rfl⟩
 ·exact absurd hd hnil
 ·refine⟨d,hz,ho,?_⟩
  unfold textL at hd⊢;unfold enc29 at hd⊢;by_cases hr:rightL ⟨wrap64 (s.ep+B.on),B.fr,B.cover,wireT B.l.toNat B.k d⟩ =true
  ·rw [if_pos hr] at hd⊢
   simp only [ne_eq,not_true_eq_false,if_false] at hd⊢;refine⟨?_,hr⟩;rcases turn_set (ltrT ⟨wrap64 (s.ep+B.on),B.fr,B.cover,wireT B.l.toNat B.k d⟩) B.at_ B.by_ with e| ⟨p,c,hp,hne,e⟩
   ·rw [e]
    exact decL_enc hr (by show wrap64 _≤_;unfold wrap64;omega)
   ·rw [e] at hd
    exact absurd hd (decL_spoilt hp hne)
  ·rw [if_neg hr] at hd
   exact absurd hd hnil
theorem heard_held {l:Nat} {s s':Sen} {r r' m:List Nd} {B:Nt} {tx:List UInt8} (a:Al l s r) (hm:Held l s.k r m) (ht:TextTo s.ep B tx) (h0:hearE l s r tx=0) (hh:HearTo l s r tx s' r') :
 Held l s.k r' (pourL m (bagL3 l [] B.ops))∧sumR m+sumR (bagL3 l [] B.ops)≤72057594037927935∧s'=heardS s (decL tx).1:=by
 obtain⟨d,hz,ho,hdec,hr⟩:=heard_is a ht h0;simp only [isDig,isPool,Bool.and_eq_true,decide_eq_true_eq] at hz;have hl':1≤B.l.toNat∧B.l.toNat≤48:=by omega
 have hk1:1≤B.k:=by omega
 have hk2:B.k≤1048576:=by omega
 have hfd:=ho.fits hl' hk1;have hld: (d.length:Int)≤8*B.k:=ho.room hl' hk1 (Held.nil _ _) (by simp;omega);have hrd:=readW_wire hl' hfd.1 hk1 hk2 hld hfd.2;rcases hh with ⟨h1,_⟩ | ⟨_,rfl,hj⟩
 ·exact absurd h0 h1
 have hme:moreE l s.k r (readW (wireT B.l.toNat B.k d)) =0:=by
  unfold hearE at h0;rw [hdec] at h0;simp only [ne_eq,not_true_eq_false,if_false] at h0
  split at h0
  ·rename_i h1;exact absurd h0 h1
  ·exact h0
 rw [hdec] at hj;simp only at hj;rw [hrd] at hj hme;simp only at hj;unfold moreE at hme;simp only [ne_eq,not_true_eq_false,if_false] at hme
 split at hme
 ·exact absurd hme (by decide)
 rename_i hlk
 split at hme
 ·exact absurd hme (by decide)
 rename_i hsm
 have e1:B.l.toNat=l:=by
  by_cases h:B.l.toNat=l
  ·exact h
  ·exact absurd (Or.inl h) hlk
 have e2:B.k=s.k:=by
  by_cases h:B.k=s.k
  ·exact h
  ·exact absurd (Or.inr h) hlk
 rw [e1,e2] at ho;have hdh:Held l s.k d (bagL3 l [] B.ops):=(Held.nil l s.k).of a.l1 a.k.1 ho;have hs:sumR r+sumR d≤72057594037927935:=by omega
 refine⟨hj.held hm hdh a.k.1 (Int.le_refl _) (Int.le_refl _) hs,?_,by rw [hdec]⟩;rw [←hm.sum,←hdh.sum];exact hs
theorem put_held {l:Nat} {s:Sen} {r r' m:List Nd} {x c:Int} (a:Al l s r) (hm:Held l s.k r m) (hp:PutTo l s r x c r') :Held l s.k r' (if putErr l s r x c=0 then (addB l m x c).1 else m):=by
 unfold putErr;rcases hp with ⟨hs,rfl⟩ | ⟨hs,hi⟩
 ·rw [if_pos hs,if_neg (by decide)];exact hm
 ·have e0: (if s.sent=true then (18:Int) else insErr l r x c) =insErr l r x c:=if_neg (by rw [hs];decide)
  rw [e0];have h1:=hm.of (L:= [(0,x,c)]) (s:=r') a.l1 a.k.1 ⟨r',insErr l r x c,.inr (.inr ⟨(by show (0:Int)≠1;decide),(by show (0:Int)≠2;decide),hi,rfl⟩),rfl⟩
  have e:bagL3 l m [(0,x,c)] = (addB l m x c).1:=by
   show (if (0:Int) =1 then m else if (0:Int) =2 then [] else (addB l m x c).1) =_
   rw [if_neg (by decide),if_neg (by decide)]
  rw [e] at h1
  split
  ·exact h1
  ·rename_i hn
   rw [insErr_add hm.sum x c hn] at h1;exact h1
def SubB (a b:Nat) :Prop:=∀j,a.testBit j=true→b.testBit j=true
theorem within_sub {a c:Nat} (h:SubB a c) :withinC a c=true:=by
 unfold withinC
 have h1:bits BinOp.andNot IntKind.u64 (a:Int) (c:Int) =0:=by
  simp only [bits,BitVec.ofInt_natCast]
  have e2: ((BitVec.ofNat 64 a) &&& ~~~(BitVec.ofNat 64 c)).toNat=0:=by
   apply Nat.eq_of_testBit_eq
   intro j;rw [←BitVec.getLsbD,BitVec.getLsbD_and,BitVec.getLsbD_not,BitVec.getLsbD_ofNat,BitVec.getLsbD_ofNat,Nat.zero_testBit];have h2:=h j
   cases ha:a.testBit j
   ·simp
   ·rw [h2 ha];cases hd:decide (j<64) <;> simp
  show IntKind.u64.wrap _=_
  rw [show IntKind.u64.bits=64 from rfl,e2]
  rfl
 rw [h1];rfl
theorem SubB.with_ {a c:Nat} {i:Int} (h:SubB a c) (hi:hasC c i=true) :SubB (withC a i) c:=by
 unfold hasC at hi;simp only [Bool.and_eq_true] at hi;obtain⟨n,rfl,hn⟩:=isCrew_nat hi.1
 have hc:c.testBit n=true:=by
  rw [Nat.testBit_eq_decide_div_mod_eq]
  simpa [hasN] using hi.2
 unfold withC;rw [if_pos hi.1]
 split
 ·exact h
 ·rename_i h2
  have h3:a.testBit n=false:=by
   rw [Nat.testBit_eq_decide_div_mod_eq]
   simpa [hasN] using h2
  intro j hj;rw [Int.toNat_natCast,Nat.add_comm,or_two_pow_add h3,Nat.testBit_or,Nat.testBit_two_pow] at hj;by_cases he:n=j
  ·subst he;exact hc
  ·rw [Bool.or_eq_true] at hj
   rcases hj with hj|hj
   ·exact h j hj
   ·simp at hj;exact absurd hj he
theorem SubB.zero (c:Nat) :SubB 0 c:=fun j h=>by rw [Nat.zero_testBit] at h;cases h
theorem SensAt.typed {w:World} {g K l:Nat} {s:Sen} {r:List Nd} {F:Nat→Prop} (h:SensAt w g K l s r F) : ∀b,F b→∃t,(t=116∨t=140∨PoolTypes t)∧TypeAt w b t:=by
 obtain⟨dg,F0,rfl,h1,_,_,h2,_⟩:=h;rintro b (rfl|hb)
 ·exact⟨_,.inl rfl,.of h1⟩
 ·obtain⟨t,ht,hT⟩:=h2.typed b hb
  exact⟨t,.inr ht,hT⟩
theorem SensAt.noType {w:World} {g K l:Nat} {s:Sen} {r:List Nd} {F:Nat→Prop} (h:SensAt w g K l s r F) {e:TypeId} (h1:e≠116) (h2:e≠140) (h3: ¬PoolTypes e) : ∀b,TypeAt w b e→¬F b:=by
 intro b hT hF;obtain⟨t,ht,hT2⟩:=h.typed b hF;obtain⟨_,_,e1⟩:=hT;obtain⟨_,_,e2⟩:=hT2;rw [e1] at e2
 cases e2
 rcases ht with ht|ht|ht
 ·exact h1 ht
 ·exact h2 ht
 ·exact h3 ht
theorem rd_noPool: ¬PoolTypes 142:=by unfold PoolTypes;decide
theorem bag_noPool: ¬PoolTypes 58:=by unfold PoolTypes;decide
theorem box_noPool: ¬PoolTypes 37:=by unfold PoolTypes;decide
theorem plc_noPool: ¬PoolTypes 26:=by unfold PoolTypes;decide
structure CntB (w:World) (pl:Array Value) (g K l px pb:Nat) (s0 s:Sen) (r m:List Nd) (F:Nat→Prop) (A:Option Addr) (c:Nat) (W:World) :Prop where
 sa:SensAt W g K l s r F
 fr: ∀b,F b→w.heap.size≤b
 x:W.heap[px]? =some (.cells (refC s0 none 0 0) 37 (0,0))
 y:W.heap[pb]? =some (.cells #[.int .i64 l,.slice A m.length c] 58 (0,0))
 p:W.heap[w.heap.size]? =some (.cells pl 26 (0,0))
 hp:w.heap.size≤pb
 sl:SlT W 142 encN A m
 b:Below w.heap.size w W
structure CntP (l:Nat) (s0 s:Sen) (r m:List Nd) :Prop where
 al:Al l s r
 hd:Held l s.k r m
 ep:s0.ep=s.ep
 p:s.p=s0.p
 k:s.k=s0.k
 sub:SubB s.heard s0.p.kids
section
variable {w W W':World} {pl:Array Value} {g K l px pb:Nat} {s0 s s2:Sen} {r r2 m m2:List Nd} {F:Nat→Prop} {A A2:Option Addr} {c c2:Nat}
theorem CntB.below (h:CntB w pl g K l px pb s0 s r m F A c W) (hb:Below W.heap.size W W') :CntB w pl g K l px pb s0 s r m F A c W':=⟨h.sa.below hb,h.fr,bB h.x hb,bB h.y hb,bB h.p hb,h.hp,h.sl.below hb,Below.then_ h.b hb⟩
theorem CntB.turn (h:CntB w pl g K l px pb s0 s r m F A c W) (ht:SensTo W g K l s2 r2 F W') : ∃F',CntB w pl g K l px pb s0 s2 r2 m F' A c W':=by
 obtain⟨F',k1,k2,k3⟩:=ht;have ap:=h.sa.noType (e:=37) (by decide) (by decide) box_noPool px (.of h.x);have ab:=h.sa.noType (e:=58) (by decide) (by decide) bag_noPool pb (.of h.y);have al:=h.sa.noType (e:=26) (by decide) (by decide) plc_noPool _ (.of h.p);refine⟨F',k1,fun b hb=> ?_,(k2.block px (lB h.x) ap).trans h.x,(k2.block pb (lB h.y) ab).trans h.y,(k2.block _ (lB h.p) al).trans h.p,h.hp,h.sl.turn k2 (h.sa.noType (by decide) (by decide) rd_noPool),h.b.trans (k2.below h.fr h.b.size)⟩;rcases k3 b hb with hb|hb
 ·exact h.fr b hb
 ·exact Nat.le_trans h.b.size hb
theorem CntB.set (h:CntB w pl g K l px pb s0 s r m F A c W) (hs:SlT W 142 encN A2 m2) :CntB w pl g K l px pb s0 s r m2 F A2 c2 ((W.setCell ⟨pb,0,none⟩ (.int .i64 l)).setCell ⟨pb,1,none⟩ (.slice A2 m2.length c2)):=by
 have ab:=h.sa.noType (e:=58) (by decide) (by decide) bag_noPool pb (.of h.y);have e: ∀q,q≠pb→((W.setCell ⟨pb,0,none⟩ (.int .i64 l)).setCell ⟨pb,1,none⟩ (.slice A2 m2.length c2)).heap[q]? =W.heap[q]? :=fun q hq=>(Below.heap_setCell _ _ _ _ hq).trans (Below.heap_setCell _ _ _ _ hq)
 have n1:px≠pb:=by
  rintro rfl;have:=h.x;rw [h.y] at this;simp only [Option.some.injEq,Obj.cells.injEq] at this;exact absurd this.2.1 (by decide)
 have n2:w.heap.size≠pb:=by
  intro he;have:=h.p;rw [he,h.y] at this;simp only [Option.some.injEq,Obj.cells.injEq] at this;exact absurd this.2.1 (by decide)
 exact⟨h.sa.keep fun b hb=>e b (fun he=>ab (he ▸ hb)),h.fr,(e _ n1).trans h.x,zH (i:=1) (zH (i:=0) h.y _) _,(e _ n2).trans h.p,h.hp,
  (hs.setCellT (t:=58) (.of h.y) (by decide)).setCellT (t:=58) ((TypeAt.of h.y).setCell) (by decide),(h.b.setCell (p:=⟨pb,0,none⟩) h.hp _).setCell (p:=⟨pb,1,none⟩) h.hp _⟩
theorem CntP.put (h:CntP l s0 s r m) {x y:Int} (hp:PutTo l s r x y r2) (a2:Al l s r2) :CntP l s0 s r2 (if putErr l s r x y=0 then (addB l m x y).1 else m):=⟨a2,put_held h.al h.hd hp,h.ep,h.p,h.k,h.sub⟩
theorem CntP.hear (h:CntP l s0 s r m) {B:Nt} {tx:List UInt8} (ht:TextTo s.ep B tx) (h0:hearE l s r tx=0) (hh:HearTo l s r tx s2 r2) :
 CntP l s0 s2 r2 (pourL m (bagL3 l [] B.ops))∧sumR m+sumR (bagL3 l [] B.ops)≤72057594037927935∧s2.heard=withC s.heard (decL tx).1.f∧s2.cover=s.cover ||| (decL tx).1.c:=by
 obtain⟨h1,h2,h3⟩:=heard_held h.al h.hd ht h0 hh;have a2:=hh.keeps h.al
 have hk:hasC s.p.kids (decL tx).1.f=true:=by
  unfold hearE at h0
  split at h0
  ·rename_i h4;exact absurd h0 h4
  ·split at h0
   ·rename_i h5;exact absurd h0 h5
   ·rename_i h5
    have h6:refusedE s (decL tx).1=0:=by simpa using h5
    unfold refusedE at h6
    split at h6
    ·exact absurd h6 (by decide)
    ·split at h6
     ·exact absurd h6 (by decide)
     ·rename_i h7;simpa using h7
 subst h3;refine⟨⟨a2,h1,h.ep,h.p,h.k,?_⟩,h2,rfl,rfl⟩;exact h.sub.with_ (by rw [←h.p];exact hk)
end
theorem law_SensorCounts_no (l k K me wait ep:Int) (kids:Nat) (A:Option Addr) (c:Nat) (L:List OpX) (y:Int) (w:World) (hkids:kids<2^64) (hS:Sl w w.heap.size encOx A L) (hO: ∀o∈L,OxOk w o) (hz:newS l k K ⟨me,kids,wait⟩ ep=false) :
 Calls Tryz.prog 5 #[placeV l k K me wait ep kids,.slice A L.length c,.int .i64 y] w fun e w'=>e=.returned (.bool true)∧Below w.heap.size w w':=by
 have X0:Hid (PlAt w l k K me wait ep kids (w.alloc (.cells #[.int .i64 l,.int .i64 k,.int .i64 K,.int .i64 me,.int .i64 wait,.int .i64 ep,.int .u64 kids] 26))):=LH (heap_alloc_new w _);have B0:Hid (Below w.heap.size w (w.alloc (.cells #[.int .i64 l,.int .i64 k,.int .i64 K,.int .i64 me,.int .i64 wait,.int .i64 ep,.int .u64 kids] 26))):=LH bE;have HA:=LH alive31;have HS:=LH hS;have HO:=LH hO;have HFew:=LH (fun W h=>law31_few W l k K A c L h);unfold FewPost confV at HFew;have HN:=LH (fun W=>law31_made_no W l k K me wait ep kids hkids hz);unfold placeV zeroR at HN;unfold placeV;clear hz hkids hS hO
 go_enter Tryz.func5,Tryz.ntmps5
 go_upto_region 1 with fail;generalize w.alloc (.cells #[.int .i64 l,.int .i64 k,.int .i64 K,.int .i64 me,.int .i64 wait,.int .i64 ep,.int .u64 kids] 26) =W0 at X0 B0⊢;have c0:=bC X0.out;have z0:=lB X0.out;go_wp2_with fail;refine(HFew.out W0 (HS.out.keep B0.out.size fun p hp=>B0.out.cell hp)).mono ?_;rintro e w1 ⟨bb,rfl,hf,hb⟩;have X1:=LH (X0.out.below hb);have B1:=LH (Below.then_ B0.out hb);clear hb c0 z0;have c1:=bC X1.out;have z1:=lB X1.out
 cases bb
 case false=>
  clear hf;go_wp2_with fail;refine(HA.out _).mono ?_;rintro e w9 ⟨rfl,hb9⟩;have B9:=LH (Below.then_ B1.out hb9);clear hb9;go_wp2_with fail;exact bR (v:=.bool true) (by simp only [results,Tryz.results5];go_simp) rfl ⟨rfl,B9.out⟩
 case true=>
  have HF:=LH (hf rfl);clear hf;go_wp2_with fail;refine(HN.out w1).mono ?_;rintro e w2 ⟨rfl,hb⟩;have B2:=LH (Below.then_ B1.out hb);clear hb c1 z1;have B3:Hid (Below w.heap.size w (w2.alloc (.cells #[.int .i64 0,.int .i64 0,.int .i64 0,.int .i64 0,.int .i64 0,.int .u64 0,.int .i64 0,.int .i64 0,.int .u64 0,.int .u64 0,.bool false,.int .i64 0,.int .i64 0,.slice none 0 0] 37))):=LH (Below.then_ B2.out ((Below.refl w2.heap.size w2).alloc (Nat.le_refl _) _));go_upto_region 4 with fail;generalize w2.alloc (.cells #[.int .i64 0,.int .i64 0,.int .i64 0,.int .i64 0,.int .i64 0,.int .u64 0,.int .i64 0,.int .i64 0,.int .u64 0,.int .u64 0,.bool false,.int .i64 0,.int .i64 0,.slice none 0 0] 37) =w3 at B3⊢;go_wp2_with fail;refine(HA.out _).mono ?_;rintro e w9 ⟨rfl,hb9⟩;have B9:=LH (Below.then_ B3.out hb9);clear hb9;go_wp2_with fail;exact bR (v:=.bool true) (by simp only [results,Tryz.results5];go_simp) rfl ⟨rfl,B9.out⟩
theorem law_SensorCounts_yes (a:Nat) (k:Int) (b:Nat) (me wait ep:Int) (kids:Nat) (A:Option Addr) (c:Nat) (L:List OpX) (y:Int) (w:World) (hkids:kids<2^64) (hS:Sl w w.heap.size encOx A L) (hO: ∀o∈L,OxOk w o) (hz:newS a k b ⟨me,kids,wait⟩ ep=true) :
 Calls Tryz.prog 5 #[placeV a k b me wait ep kids,.slice A L.length c,.int .i64 y] w fun e w'=>e=.returned (.bool true)∧Below w.heap.size w w':=by
 have X0:Hid (PlAt w a k b me wait ep kids (w.alloc (.cells #[.int .i64 a,.int .i64 k,.int .i64 b,.int .i64 me,.int .i64 wait,.int .i64 ep,.int .u64 kids] 26))):=LH (heap_alloc_new w _);have B0:Hid (Below w.heap.size w (w.alloc (.cells #[.int .i64 a,.int .i64 k,.int .i64 b,.int .i64 me,.int .i64 wait,.int .i64 ep,.int .u64 kids] 26))):=LH bE;have HA:=LH alive31;have HS:=LH hS;have HO:=LH hO;have HFew:=LH (fun W h=>law31_few W a k b A c L h);unfold FewPost confV at HFew;have HN:=LH (fun W=>law31_made W a b k me wait ep kids hkids hz);unfold MadeIn placeV at HN;have HAl:=LH (fun (hk:k≤124)=>Al.new hz hk);have H0:Hid ((senNew a k b ⟨me,kids,wait⟩ ep).cover=withC 0 me∧(senNew a k b ⟨me,kids,wait⟩ ep).heard=0∧(senNew a k b ⟨me,kids,wait⟩ ep).p.kids=kids∧(senNew a k b ⟨me,kids,wait⟩ ep).k=k):=LH ⟨rfl,rfl,rfl,rfl⟩;generalize senNew a k b ⟨me,kids,wait⟩ ep=s0 at HN HAl H0;unfold refV refC at HN;unfold placeV;clear hz hkids hS hO
 go_enter Tryz.func5,Tryz.ntmps5
 go_upto_region 1 with fail;generalize w.alloc (.cells #[.int .i64 a,.int .i64 k,.int .i64 b,.int .i64 me,.int .i64 wait,.int .i64 ep,.int .u64 kids] 26) =W0 at X0 B0⊢;have c0:=bC X0.out;have z0:=lB X0.out;go_wp2_with fail;refine(HFew.out W0 (HS.out.keep B0.out.size fun p hp=>B0.out.cell hp)).mono ?_;rintro e w1 ⟨bb,rfl,hf,hb⟩;have X1:=LH (X0.out.below hb);have B1:=LH (Below.then_ B0.out hb);clear hb c0 z0;have c1:=bC X1.out;have z1:=lB X1.out
 cases bb
 case false=>
  clear hf;go_wp2_with fail;refine(HA.out _).mono ?_;rintro e w9 ⟨rfl,hb9⟩;have B9:=LH (Below.then_ B1.out hb9);clear hb9;go_wp2_with fail;exact bR (v:=.bool true) (by simp only [results,Tryz.results5];go_simp) rfl ⟨rfl,B9.out⟩
 case true=>
  have HF:=LH (hf rfl);clear hf;go_wp2_with fail;refine(HN.out w1).mono ?_;rintro e w2 ⟨g,rfl,F0,hs1,hs2,hs3⟩;have hk50:k≤124:=by have:=HF.out.1.k1;omega
  have hin:SensIn w g b a s0 [] w2:=⟨F0,hs1,fun q hq=>Nat.le_trans B1.out.size (hs2 q hq),Below.then_ B1.out hs3⟩;obtain⟨F1,hp⟩:=PlayS.first hin (Below.then_ B1.out hs3) (HAl.out hk50);have P0:=LH hp;have X3:=LH (bB (bB X1.out hs3) ((Below.refl w2.heap.size w2).alloc (Nat.le_refl _) (.cells (refC s0 none 0 0) 37)));have HAl2:=LH (HAl.out hk50);unfold refC at P0 X3;go_upto_region 4 with fail;have e0:refC s0 none 0 0= #[.int .i64 s0.l,.int .i64 s0.k,.int .i64 s0.kd,.int .i64 s0.p.me,.int .i64 s0.p.wait,.int .u64 s0.p.kids,.int .i64 s0.ep,.int .i64 s0.ti,.int .u64 s0.heard,.int .u64 s0.cover,.bool s0.sent,.int .i64 s0.k,.int .i64 s0.l,.slice none 0 0]:=rfl;generalize w2.alloc (.cells #[.int .i64 s0.l,.int .i64 s0.k,.int .i64 s0.kd,.int .i64 s0.p.me,.int .i64 s0.p.wait,.int .u64 s0.p.kids,.int .i64 s0.ep,.int .i64 s0.ti,.int .u64 s0.heard,.int .u64 s0.cover,.bool s0.sent,.int .i64 s0.k,.int .i64 s0.l,.slice none 0 0] 37) =w3 at P0 X3⊢;generalize w2.heap.size=px at P0⊢;have c3:=bC X3.out;have z3:=lB X3.out;go_upto_region 7 with fail
  have C4:Hid (CntB w #[.int .i64 a,.int .i64 k,.int .i64 b,.int .i64 me,.int .i64 wait,.int .i64 ep,.int .u64 kids] g b a px w3.heap.size s0 s0 [] [] F1 none 0 (w3.alloc (.cells #[.int .i64 a,.slice none 0 0] 58))):=LH (by
   have al:=(Below.refl w3.heap.size w3).alloc (Nat.le_refl _) (.cells #[.int .i64 a,.slice none 0 0] 58);exact⟨P0.out.sa.below al,P0.out.fr,bB P0.out.x al,heap_alloc_new w3 _,bB X3.out al,P0.out.b.size,.nil,Below.then_ P0.out.b al⟩)
  have HPl:Hid (CntP a s0 s0 [] []):=LH ⟨HAl2.out,Held.nil _ _,rfl,rfl,rfl,by rw [H0.out.2.1];exact SubB.zero _⟩;clear c3 z3;generalize w3.alloc (.cells #[.int .i64 a,.slice none 0 0] 58) =w4 at C4⊢;generalize w3.heap.size=pb at C4⊢;have HWi:=LH (fun W=>crew_With 0 me (Nat.two_pow_pos 64) W);rw [←H0.out.1] at HWi;have c4:=bC C4.out.p;have z4:=lB C4.out.p;have hn40:L.length≤40:=HF.out.1.n;go_wp2_with fail;refine(HWi.out w4).mono ?_;rintro e w5 ⟨rfl,hb⟩;have C5:=LH (C4.out.below hb);clear hb c4 z4 C4 HWi X3 P0;have h00:=H0.out.2.1;have hcv0:Hid ((Value.int .u64 ((s0.cover:Nat) :Int)) =.int .u64 ((s0.cover:Nat) :Int)):=LH rfl;clear h00;go_wp2_with fail
  go_loopw [10,11,43] (fun cv hv i W=>∃(q:Nat) (s:Sen) (r m:List Nd) (F:Nat→Prop) (A1:Option Addr) (c1:Nat),i=.int .i64 q∧cv=.int .u64 s.cover∧hv=.int .u64 s.heard∧q≤L.length∧m.length≤21*q∧CntP a s0 s r m∧CntB w #[.int .i64 a,.int .i64 k,.int .i64 b,.int .i64 me,.int .i64 wait,.int .i64 ep,.int .u64 kids] g b a px pb s0 s r m F A1 c1 W) (fun cv hv i _=>L.length - (intOf i).toNat)
  case atStart=>exact⟨0,s0, [], [],F1,none,0,rfl,rfl,by rw [H0.out.2.1];rfl,Nat.zero_le _,Nat.zero_le _,HPl.out,C5.out⟩
  case round=>
   obtain⟨q,s,r,m,F,A1,c1,rfl,rfl,rfl,hq,hml,hPl,hC⟩:=hrel;have PP:=LH hPl;have P:=LH hC;have HML:=LH hml;clear hPl hC hml HPl C5;by_cases hlt:q<L.length
   case neg=>
    obtain rfl:q=L.length:=by omega
    have hqi:decide ((L.length:Int) < (L.length:Int)) =false:=by simp
    have HDg:=LH (fun W h=>sensor_Digest W g b a s r F h);unfold DigestPost at HDg;go_wp2_with fail;refine(HDg.out wr P.out.sa).mono ?_;rintro e w2 ⟨gd,Fd,rfl,hd,hdF,hb⟩;have C2:=LH (P.out.below hb);have D2:=LH hd;clear hb hd hdF P HDg;have hlen:=PP.out.al.len;have HSe:Hid (∃dg,SenAt w2 g dg s):=LH (by obtain⟨dg,F0,_,h1,_⟩:=C2.out.sa;exact⟨dg,h1⟩);obtain⟨dg,hse⟩:=HSe.out;have SE:=LH hse;clear hse HSe;have HBg:=LH PP.out.hd.bag;have HWn:Hid (withinC s.heard kids=true):=LH (within_sub (by have h:=PP.out.sub;rw [H0.out.2.2.1] at h;exact h));have HCt:=LH (fun W h=>ref10_Total W a A1 c1 m h (fun x hx=>(HBg.out.val x hx).2.2) HBg.out.sum);have HRk:=LH (fun W h=>ref10_Rank W a A1 c1 m y h (fun x hx=>(HBg.out.val x hx).2.2) HBg.out.sum);unfold bagV at HCt HRk;have HSum:=LH PP.out.hd.sum;have HRan:=LH (PP.out.hd.rank PP.out.al.l1 PP.out.al.k.1 y);have HK:Hid (s.k=k):=LH (PP.out.k.trans H0.out.2.2.2);have hk1:1≤k:=by have:=PP.out.al.k.1;rw [HK.out] at this;exact this
    have ha48:=PP.out.al.l1;have hsm0:=HBg.out.sum0;have hsm1:=HBg.out.sum;rw [HK.out] at HRan;have HBt:=LH (betwB_le (fun x hx=>(HBg.out.val x hx).2.2) 0 y);have HLb:Hid (0≤lowOf a r y∧lowOf a r y≤sumR r):=LH (weighR_le (l:=a) (f:=fun _ hi=>decide (hi≤y)) PP.out.al.fits.roll);have HHb:Hid (0≤highOf a r y∧highOf a r y≤sumR r):=LH (weighR_le (l:=a) (f:=fun lo _=>decide (lo≤y)) PP.out.al.fits.roll);rw [HSum.out] at HLb HHb;have HCw:=LH (fun W=>crew_Within W s.heard kids);rw [HWn.out] at HCw;have HCo:=LH (fun W h=>sensor_Cover W g dg s h);have HHe:=LH (fun W h=>sensor_Heard W g dg s h);have HNn:=LH (fun W h=>digest_N W gd b a s.k r Fd h);rw [HSum.out] at HNn;have HLo:=LH (fun W h=>rank_Low W gd b a s.k r Fd y h (by omega));have HHi:=LH (fun W h=>rank_High W gd b a s.k r Fd y h (by omega));clear HWn HSum PP;have cp:=bC C2.out.p;have zp:=lB C2.out.p;have cy:=bC C2.out.y;have zy:=lB C2.out.y;generalize sumR m=sm at HCt HNn HRan hsm0 hsm1 HBt HLb HHb;go_upto_region 22 with fail;refine rX (by kernel_rfl) (by kernel_rfl) ?_
    repeat (go_big_quiet_step (first
     | (go_at_call 21;exact quiet_ext (HCo.out _ (SE.out.below (ext_below _ _))))
     | (go_at_call 22;exact quiet_ext (HHe.out _ (SE.out.below (ext_below _ _))))
     | (go_at_call 23;exact quiet_ext (HCw.out _))
     | (go_at_call 24;exact quiet_ext (HNn.out _ (D2.out.below (ext_below _ _))))
     | (go_at_call 25;exact quiet_ext (HCt.out _ ((C2.out.sl.below (ext_below _ _)).sl)))))
    refine wpQuiet_nil ?_;intro w3 hb3;replace hb3:=bX hb3;have C3:=LH (C2.out.below hb3);have D3:=LH (D2.out.below hb3);clear hb3 cp zp cy zy C2 D2 SE;have cy:=bC C3.out.y;have zy:=lB C3.out.y;go_wp2_with fail;refine(HRk.out w3 C3.out.sl.sl).mono ?_;rintro e w4 ⟨rfl,hb⟩;have C4:=LH (C3.out.below hb);have D4:=LH (D3.out.below hb);clear hb cy zy C3 D3;have cp:=bC C4.out.p;have zp:=lB C4.out.p;have cy:=bC C4.out.y;have zy:=lB C4.out.y;obtain⟨q1,q2,q3⟩:=HRan.out;have hb0:=HBt.out;have hlo:=HLb.out;have hhi:=HHb.out;clear HRan HBt HLb HHb;generalize lowOf a r y=lo at q1 q3 hlo HLo;generalize highOf a r y=hi at q2 q3 hhi HHi;generalize betwB m 0 y=n at q1 q2 hb0⊢;have hq0:0≤sm / k:=Int.ediv_nonneg hsm0 (by omega);have hq1:sm / k≤sm:=Int.ediv_le_self _ hsm0;have hmul: (0:Int)≤a* (sm / k):=Int.mul_nonneg (by omega) hq0
    have hmul2: (a:Int) * (sm / k)≤3458764513820540880:=by
     have h1: (a:Int) * (sm / k)≤48* (sm / k):=Int.mul_le_mul_of_nonneg_right (by omega) hq0;omega
    have hw:wrap64 ((a:Int) * (sm / k)) =a* (sm / k):=by unfold wrap64;omega
    have q4:n - lo≤(a:Int) * (sm / k):=Int.le_trans (Int.sub_le_sub_right q2 lo) q3;have q5:decide (n - lo≤(a:Int) * (sm / k)) =true:=by simpa using q4
    have hw2:wrap64 (n - lo) =n - lo:=by unfold wrap64;omega
    clear hmul hmul2;go_upto_region 25 with fail;refine rX (by kernel_rfl) (by kernel_rfl) ?_
    repeat (go_big_quiet_step (first
     | (go_at_call 27;exact quiet_ext (HLo.out _ (D4.out.below (ext_below _ _))))
     | (go_at_call 28;exact quiet_ext (HHi.out _ (D4.out.below (ext_below _ _))))
     | (go_at_call 7;exact quiet_ext (HA.out _))
     | (go_at_call 25;exact quiet_ext (HCt.out _ ((C4.out.sl.below (ext_below _ _)).sl)))))
    refine wpQuiet_nil ?_;intro w5 hb5;replace hb5:=bX hb5;have B5:=LH (Below.then_ C4.out.b hb5);clear hb5;go_wp2_with fail;exact bR (v:=.bool true) (by simp only [results,Tryz.results5];go_simp) rfl ⟨rfl,B5.out⟩
   have HQ1:=LH (show q+1≤L.length from hlt);have hqi: (q:Int) < (L.length:Int):=by omega
   have HOx:=LH (HO.out _ (List.getElem_mem hlt));have HFo:=LH (HF.out.2 q hlt hlt);obtain⟨bo,off,rfl,hb,hc⟩:=HS.out.at_ hlt;have bc: ∀p,wr.cell? ⟨bo,p,none⟩ =w.cell? ⟨bo,p,none⟩:=fun p=>P.out.b.cell (p:=⟨bo,p,none⟩) hb;have d0:=(bc _).trans (hc 0 _ rfl);have d1:=(bc _).trans (hc 1 _ rfl);have d2:=(bc _).trans (hc 2 _ rfl);have d3:=(bc _).trans (hc 3 _ rfl);have d4:=(bc _).trans (hc 4 _ rfl);have d5:=(bc _).trans (hc 5 _ rfl);have d6:=(bc _).trans (hc 6 _ rfl);have d7:=(bc _).trans (hc 7 _ rfl);have d8:=(bc _).trans (hc 8 _ rfl);have d9:=(bc _).trans (hc 9 _ rfl);have d10:=(bc _).trans (hc 10 _ rfl);simp only [Nat.add_zero] at d0;have zb:bo<wr.heap.size:=Nat.lt_of_lt_of_le hb P.out.b.size;clear hc bc;generalize L[q] =o at HOx HFo d0 d1 d2 d3 d4 d5 d6 d7 d8 d9 d10;go_upto_region 11 with fail;have P1:=LH (P.out.below ((Below.refl wr.heap.size wr).alloc (Nat.le_refl _) (.cells (opC o) 44)));have X1:Hid ((wr.alloc (.cells (opC o) 44)).heap[wr.heap.size]? =some (.cells (opC o) 44 (0,0))):=LH (heap_alloc_new wr _);unfold opC at P1 X1;clear d0 d1 d2 d3 d4 d5 d6 d7 d8 d9 d10 zb hb P;generalize wr.alloc (.cells #[.int .i64 o.kd,.int .i64 o.x,.int .i64 o.y,.int .i64 o.b.on,.int .i64 o.b.fr,.int .i64 o.b.k,.int .i64 o.b.l,.int .u64 o.b.cover,.slice o.A o.b.ops.length o.c,.int .i64 o.b.at_,.int .u8 o.b.by_.toNat] 44) =w1 at P1 X1⊢;generalize wr.heap.size=po at X1⊢;have cx:=bC P1.out.x;unfold refC at cx;have zx:=lB P1.out.x;have co:=bC X1.out;have zo:=lB X1.out;by_cases h4:o.kd=4
   case pos=>
    have hi4: (o.kd == 4) =true:=by simpa using h4
    clear h4;go_wp2_with fail;go_roundw
    case rel=>exact⟨q+1,s,r,m,F,A1,c1,by go_num,rfl,rfl,HQ1.out,by have:=HML.out;omega,PP.out,P1.out⟩
    case measure=>
     have h1:=HQ1.out;simp [intOf];omega
   have hi4: (o.kd == 4) =false:=by simpa using h4
   have HD:=LH (law31_do w1 g b a s r F none 0 0 o s0 PP.out.ep P1.out.sa PP.out.al (ox_keep HOx.out P1.out.b) (by have:=HFo.out.n;omega) (by have:=HFo.out.k1;omega) HOx.out.2.2.2.2.1);unfold Do31S refV refC opV opC at HD;go_wp2_with fail;refine HD.out.mono ?_;rintro e w4 ⟨t4,er,s2,r2,rfl,hst,ht⟩;obtain⟨F4,hC4⟩:=P1.out.turn ht;have C4:=LH hC4;have HST:=LH hst;have A2l:=LH (hst.keeps PP.out.al)
   have bx:w4.heap[po]? =w1.heap[po]? :=by
    obtain⟨F',k1,k2,k3⟩:=ht;exact k2.block po (lB X1.out) (P1.out.sa.noType (e:=44) (by decide) (by decide) (by unfold PoolTypes;decide) po (.of X1.out))
   have X4:=LH (bx.trans X1.out);clear hst ht hC4 bx HD P1 X1 cx zx co zo;have co:=bC X4.out;have zo:=lB X4.out;by_cases h0:o.kd=0
   case pos=>
    have hi0: (o.kd == 0) =true:=by simpa using h0
    have hi1: (o.kd == 1) =false:=by rw [h0];rfl
    have HS0:Hid (er=putErr a s r o.x o.y∧s2=s∧PutTo a s r o.x o.y r2):=LH (by
     rcases HST.out with ⟨_,_,e1,e2,e3⟩ | ⟨e0,_⟩ | ⟨e0,_⟩ | ⟨e0,_⟩ | ⟨⟨e0,_⟩,_⟩
     ·exact⟨e1,e2,e3⟩
     all_goals (exfalso;omega))
    obtain⟨e1,e2,e3⟩:=HS0.out;rw [e2] at A2l C4;have PN:=LH (PP.out.put e3 A2l.out);rw [←e1] at PN;clear e1 e3 HS0 HST h0;clear e2;by_cases he:er=0
    case neg=>
     have hei: (er == 0) =false:=by simpa using he
     rw [if_neg he] at PN;clear he;go_wp2_with fail;go_roundw
     case rel=>exact⟨q+1,s,r2,m,F4,A1,c1,by go_num,rfl,rfl,HQ1.out,by have:=HML.out;omega,PN.out,C4.out⟩
     case measure=>
      have h1:=HQ1.out;simp [intOf];omega
    have hei: (er == 0) =true:=by simpa using he
    rw [if_pos he] at PN;clear he;have HAd:=LH (ref10_Add w4 a A1 c1 m o.x o.y PP.out.al.l1 C4.out.sl PP.out.hd.bag (by have:=HML.out;omega) (by have:=HOx.out.2.2.1.2.2;unfold i64 at this;omega));unfold bagV at HAd;have HLn:=LH (addB_len a m o.x o.y);generalize (addB a m o.x o.y).2=e8 at HAd;generalize (addB a m o.x o.y).1=m2 at PN HAd HLn;have cy:=bC C4.out.y;have zy:=lB C4.out.y;go_wp2_with fail;refine HAd.out.mono ?_;rintro e w5 ⟨A5,c5,rfl,hs5,hb⟩;have C5:=LH (C4.out.below hb);have S5:=LH hs5;have X5:=LH (bB X4.out hb);clear hb hs5 C4 X4 HAd cy zy co zo;have cy:=bC C5.out.y;have zy:=lB C5.out.y;have fy:=bF C5.out.y;go_upto_region 15 with fail;have C6:=LH (C5.out.set (c2:=c5) S5.out)
    have n1:po≠pb:=by
     rintro rfl;have h:=X5.out;rw [C5.out.y] at h;simp only [Option.some.injEq,Obj.cells.injEq] at h;exact absurd h.2.1 (by decide)
    have X6:Hid (((w5.setCell ⟨pb,0,none⟩ (.int .i64 a)).setCell ⟨pb,1,none⟩ (.slice A5 m2.length c5)).heap[po]? =_):=LH (((Below.heap_setCell _ _ _ _ n1).trans (Below.heap_setCell _ _ _ _ n1)).trans X5.out);clear cy zy fy n1 C5 S5 X5;generalize ((w5.setCell ⟨pb,0,none⟩ (.int .i64 a)).setCell ⟨pb,1,none⟩ (.slice A5 m2.length c5)) =w6 at C6 X6⊢;have co:=bC X6.out;have zo:=lB X6.out;go_wp2_with fail;go_roundw
    case rel=>exact⟨q+1,s,r2,m2,F4,A5,c5,by go_num,rfl,rfl,HQ1.out,by have:=HML.out;have:=HLn.out;omega,PN.out,C6.out⟩
    case measure=>
     have h1:=HQ1.out;simp [intOf];omega
   have hi0: (o.kd == 0) =false:=by simpa using h0
   by_cases h1:o.kd=1
   case neg=>
    have hi1: (o.kd == 1) =false:=by simpa using h1
    have HS0:Hid (CntP a s0 s2 r2 m∧s2.cover=s.cover∧s2.heard=s.heard):=LH (by
     rcases HST.out with ⟨e0,_⟩ | ⟨e0,_⟩ | ⟨_,hs⟩ | ⟨e0,_⟩ | ⟨_,_,_,e1,e2⟩
     ·exact absurd e0 h0
     ·exact absurd e0 h1
     ·rcases hs with ⟨_,_,_,rfl,rfl⟩ | ⟨_,_,_,_,rfl,rfl⟩ | ⟨_,_,ps,hr,_,_,rfl⟩
      ·exact⟨PP.out,rfl,rfl⟩
      ·exact⟨PP.out,rfl,rfl⟩
      ·exact⟨⟨A2l.out,PP.out.hd.run hr,PP.out.ep,PP.out.p,PP.out.k,PP.out.sub⟩,rfl,rfl⟩
     ·omega
     ·subst e1 e2
      have e3: (tickedS s).cover=s.cover∧(tickedS s).heard=s.heard∧(tickedS s).k=s.k∧(tickedS s).p=s.p∧(tickedS s).ep=s.ep:=by unfold tickedS tickS;split <;> exact⟨rfl,rfl,rfl,rfl,rfl⟩
      exact⟨⟨A2l.out,by rw [e3.2.2.1];exact PP.out.hd,PP.out.ep.trans e3.2.2.2.2.symm,e3.2.2.2.1.trans PP.out.p,e3.2.2.1.trans PP.out.k,by rw [e3.2.1];exact PP.out.sub⟩,e3.1,e3.2.1⟩)
    have PN:=LH HS0.out.1;have hcs: ((s.cover:Nat) :Int) =s2.cover:=by rw [HS0.out.2.1]
    have hhs: ((s.heard:Nat) :Int) =s2.heard:=by rw [HS0.out.2.2]
    have HCS:=LH hcs;have HHS:=LH hhs;clear hcs hhs HS0 HST h0 h1;go_wp2_with fail;go_roundw
    case rel=>exact⟨q+1,s2,r2,m,F4,A1,c1,by go_num,by rw [←HCS.out],by rw [←HHS.out],HQ1.out,by have:=HML.out;omega,PN.out,C4.out⟩
    case measure=>
     have h1:=HQ1.out;simp [intOf];omega
   have hi1: (o.kd == 1) =true:=by simpa using h1
   have HS0:Hid (∃tx,TextTo s.ep o.b tx∧er=hearE a s r tx∧HearTo a s r tx s2 r2):=LH (by
    rcases HST.out with ⟨e0,_⟩ | ⟨_,_,h⟩ | ⟨e0,_⟩ | ⟨e0,_⟩ | ⟨⟨_,e0,_⟩,_⟩
    ·exact absurd e0 h0
    ·exact h
    all_goals (exfalso;omega))
   obtain⟨tx,htx,her,hhr⟩:=HS0.out;clear HS0 HST h0 h1;by_cases he:er=0
   case neg=>
    have hei: (er == 0) =false:=by simpa using he
    have hsr:s2=s∧r2=r:=by
     rcases hhr with ⟨_,e1,e2⟩ | ⟨e0,_⟩
     ·exact⟨e1,e2⟩
     ·exact absurd (her.trans e0) he
    obtain⟨e1,e2⟩:=hsr;rw [e1,e2] at C4;clear e1 e2 he her htx hhr A2l;go_wp2_with fail;go_roundw
    case rel=>exact⟨q+1,s,r,m,F4,A1,c1,by go_num,rfl,rfl,HQ1.out,by have:=HML.out;omega,PP.out,C4.out⟩
    case measure=>
     have h1:=HQ1.out;simp [intOf];omega
   have hei: (er == 0) =true:=by simpa using he
   obtain⟨hPN,hsum,hhd,hcv⟩:=PP.out.hear htx (her.symm.trans he) hhr;have PN:=LH hPN;have HSm:=LH hsum;have HTx:=LH htx;have HLt:=LH (htx.len);have HT:=LH (fun W h=>ref31_Text W s0 none 0 0 o.b o.A o.c h (by have:=HFo.out.n;omega) (fun _=>by have:=HFo.out.k1;omega) HOx.out.2.2.2.2.1);unfold noteV at HT;unfold refV refC at HT;have HDe:=LH (fun W=>ref29_Decode W tx (by have:=HLt.out;omega));unfold LtPost at HDe;have hxc:=decL_crew tx;have HHd:=LH hhd;have HCv:=LH hcv;generalize (decL tx).2=e9 at HDe;generalize (decL tx).1=x at HDe HHd HCv hxc;obtain⟨xe,xf,xc,xb⟩:=x;dsimp only at HDe HHd HCv hxc;have hcv64:=LH (right_lt PP.out.al.ok.c);have hhd64:=LH (right_lt PP.out.al.ok.h);have hxc:=LH hxc;clear hPN hsum hhd hcv htx her he hhr;have cx:=bC C4.out.x;unfold refC at cx;have zx:=lB C4.out.x;try unfold opC at co
   go_wp2_with fail;refine(HT.out w4 (ox_keep HOx.out C4.out.b)).mono ?_;rintro e w5 ⟨tx2,rfl,htx2,hb⟩;rw [PP.out.ep] at htx2;have etx:=HTx.out.unique htx2;rw [etx];have C5:=LH (C4.out.below hb);have X5:=LH (bB X4.out hb);clear hb htx2 etx C4 X4 HT cx zx co zo HTx HLt;go_wp2_with fail;refine(HDe.out w5).mono ?_;rintro e w6 ⟨rfl,hb⟩;have al:=hb.trans (((Below.refl w6.heap.size w6).alloc (Nat.le_refl _) (.cells #[.int .i64 xe,.int .i64 xf,.int .u64 xc,.string ⟨xb.toArray⟩] 64)).mono hb.size);have C7:=LH (C5.out.below al);have X7:=LH (bB X5.out al);have L7:=LH (heap_alloc_new w6 (.cells #[.int .i64 xe,.int .i64 xf,.int .u64 xc,.string ⟨xb.toArray⟩] 64));clear hb al C5 X5 HDe;go_upto_region 17 with fail;generalize w6.alloc (.cells #[.int .i64 xe,.int .i64 xf,.int .u64 xc,.string ⟨xb.toArray⟩] 64) =w7 at C7 X7 L7⊢;generalize w6.heap.size=pl at L7⊢;have cl:=bC L7.out;have zl:=lB L7.out;have alu:=(Below.refl w7.heap.size w7).alloc (Nat.le_refl _) (.cells #[.int .u64 s.cover,.int .u64 xc] 59);have OL:Hid (Own (w7.alloc (.cells #[.int .u64 s.cover,.int .u64 xc] 59)) w7.heap.size 59 encU (.slice (some ⟨w7.heap.size,0,none⟩) 2 2) [s.cover,xc]):=LH (Own.lit w7 encU [s.cover,xc] 59 (Nat.le_refl _) (by simp [maxLen]));have HUn:=LH (fun W v (h:Own W w7.heap.size 59 encU v [s.cover,xc])=>crew_Union2 W _ v s.cover xc h hcv64.out hxc.out);have C8:=LH (C7.out.below alu);have X8:=LH (bB X7.out alu);have L8:=LH (bB L7.out alu);go_wp2_with fail;refine(HUn.out _ _ OL.out).mono ?_;rintro e w9 ⟨rfl,hb⟩;have C9:=LH (C8.out.below hb);have X9:=LH (bB X8.out hb);have L9:=LH (bB L8.out hb);clear hb alu OL HUn C7 X7 L7 C8 X8 L8 cl zl;have HWi:=LH (fun W=>crew_With s.heard xf hhd64.out W);have cl:=bC L9.out;have zl:=lB L9.out;go_wp2_with fail;refine(HWi.out w9).mono ?_;rintro e wa ⟨rfl,hb⟩;have Ca:=LH (C9.out.below hb);have Xa:=LH (bB X9.out hb);clear hb cl zl L9 C9 X9 HWi;have HTo:=LH (law31_told wa a A1 c1 m o.A o.c o.b.ops PP.out.al.l1 Ca.out.sl PP.out.hd.bag (ox_keep HOx.out Ca.out.b) HOx.out.2.1 HFo.out.n (by have:=HML.out;omega) HSm.out);unfold ToldPost bagV at HTo;have HLn:Hid ((pourL m (bagL3 a [] o.b.ops)).length≤m.length+20):=LH (by have h1:=pourL_len m (bagL3 a [] o.b.ops);have h2:=bagL3_len (l:=a) o.b.ops [];have h3:=HFo.out.n;simp at h2;omega);generalize pourL m (bagL3 a [] o.b.ops) =m2 at PN HTo HLn;have co:=bC Xa.out;have zo:=lB Xa.out;have cy:=bC Ca.out.y;have zy:=lB Ca.out.y;try unfold opC at co
   go_wp2_with fail;refine HTo.out.mono ?_;rintro e wb ⟨A5,c5,rfl,hs5,hb⟩;have Cb:=LH (Ca.out.below hb);have Sb:=LH hs5;clear hb hs5 Ca Xa HTo cy zy co zo;have cy:=bC Cb.out.y;have zy:=lB Cb.out.y;have fy:=bF Cb.out.y;go_upto_region 20 with fail;have C6:=LH (Cb.out.set (c2:=c5) Sb.out);clear cy zy fy Cb Sb;generalize ((wb.setCell ⟨pb,0,none⟩ (.int .i64 a)).setCell ⟨pb,1,none⟩ (.slice A5 m2.length c5)) =w6 at C6⊢;go_wp2_with fail;go_roundw
   case rel=>exact⟨q+1,s2,r2,m2,F4,A5,c5,by go_num,by rw [HCv.out],by rw [HHd.out],HQ1.out,by have:=HML.out;have:=HLn.out;omega,PN.out,C6.out⟩
   case measure=>
    have h1:=HQ1.out;simp [intOf];omega
theorem law_SensorCounts (l k K me wait ep:Int) (kids:Nat) (L:List OpX) (A:Option Addr) (c:Nat) (y:Int) (w:World) (hl:i64 l) (hk:i64 k) (hK:i64 K) (hme:i64 me) (hw:i64 wait) (hep:i64 ep) (hkids:kids<2^64) (hS:Sl w w.heap.size encOx A L) (hO: ∀o∈L,OxOk w o) (hm:L.length≤maxLen) (hy: (Lit.int .i64 y).wf=true) :
 Calls Tryz.prog 5 #[placeV l k K me wait ep kids,.slice A L.length c,.int .i64 y] w fun e w'=>e=.returned (.bool true)∧Below w.heap.size w w':=by
 cases hz:newS l k K ⟨me,kids,wait⟩ ep
 ·exact law_SensorCounts_no l k K me wait ep kids A c L y w hkids hS hO hz
 ·obtain⟨a,b,rfl,rfl⟩:=newS_nat hz
  exact law_SensorCounts_yes a k b me wait ep kids A c L y w hkids hS hO hz
end Go.Proofs.YtandlhihcnadmaaGreat
