/-
  Texts of this proof, one behind the other: SensorOps, DigReset, Made13, Send, Alive31, Ref31, Ref31B, Ref31N, Ref24C, Ref22F, Ref24R, Ref27L.
-/
import Derived.Test.YtandlhihcnadmaaGreatQ2
import Derived.Test.YtandlhihcnadmaaGreatQ3
import Derived.Test.YtandlhihcnadmaaGreatQ5
import Derived.Test.YtandlhihcnadmaaGreatQ6
import Derived.Test.YtandlhihcnadmaaGreatQ7
set_option linter.unusedVariables false
set_option linter.unusedSimpArgs false
set_option maxRecDepth 100000
set_option maxHeartbeats 16000000
namespace Go.Proofs.YtandlhihcnadmaaGreat
open Go.ChangeShapes Go.WideShapes Go.ChangeAt Go.RowKit
def readyS (s:Sen) :Bool:= !s.sent && (decide (s.heard=s.p.kids) || decide (s.p.wait≤s.ti))
def sentS (s:Sen) :Sen:={s with sent:=true}
def tickS (s:Sen) :Sen:={s with ti:=s.ti+1}
def tickedS (s:Sen) :Sen:=if s.ti<s.p.wait then tickS s else s
theorem sensor_Ready (w:World) (g dg:Nat) (s:Sen) (h:SenAt w g dg s) :Calls Tryz.prog 30 #[.pointer (some ⟨g,0,none⟩)] w fun e w'=>e=.returned (.bool (readyS s))∧Below w.heap.size w w':=by
 obtain⟨l,k,kd,⟨me,kids,wait⟩,ep,ti,heard,cover,sent⟩:=s;have cc:=bC h;have cf:=bF h;have zb:=lB h;unfold readyS;dsimp only at*;clear h
 cases sent
 ·by_cases h1:heard=kids
  ·have h1': ((heard:Int) == (kids:Int)) =true:=beq_iff_eq.2 (by omega)
   have hd:decide (heard=kids) =true:=by simpa using h1
   rw [hd];clear h1 hd
   go_enter Tryz.func30,Tryz.ntmps30
   go_upto_region 1 with fail;refine rX (by kernel_rfl) (by kernel_rfl) ?_
   repeat (go_big_quiet_step (fail))
   refine wpQuiet_nil ?_;intro w1 hb1;replace hb1:=bX hb1;have B1:Below w.heap.size w w1:=Below.then_ bE hb1;have s1:=B1.size;go_wp2_with fail;go_ret;exact⟨rfl,B1⟩
  ·have h1': ((heard:Int) == (kids:Int)) =false:=by simp;omega
   have hd:decide (heard=kids) =false:=by simpa using h1
   rw [hd];clear h1 hd
   go_enter Tryz.func30,Tryz.ntmps30
   go_upto_region 1 with fail;refine rX (by kernel_rfl) (by kernel_rfl) ?_
   repeat (go_big_quiet_step (fail))
   refine wpQuiet_nil ?_;intro w1 hb1;replace hb1:=bX hb1;have B1:Below w.heap.size w w1:=Below.then_ bE hb1;have s1:=B1.size;go_wp2_with fail;go_ret;exact⟨rfl,B1⟩
 ·go_enter Tryz.func30,Tryz.ntmps30
  go_upto_region 1 with fail;refine rX (by kernel_rfl) (by kernel_rfl) ?_
  repeat (go_big_quiet_step (fail))
  refine wpQuiet_nil ?_;intro w1 hb1;replace hb1:=bX hb1;have B1:Below w.heap.size w w1:=Below.then_ bE hb1;have s1:=B1.size;go_wp2_with fail;go_ret;exact⟨rfl,B1⟩
theorem SenAt.tick {w:World} {g dg:Nat} {s:Sen} (h:SenAt w g dg s) :SenAt (w.setCell ⟨g,7,none⟩ (.int .i64 (s.ti+1))) g dg (tickS s):=zH (i:=7) h _
theorem SenAt.toSent {w:World} {g dg:Nat} {s:Sen} (h:SenAt w g dg s) :SenAt (w.setCell ⟨g,10,none⟩ (.bool true)) g dg (sentS s):=zH (i:=10) h _
theorem SensAt.set {w:World} {g K l o dg:Nat} {s s':Sen} {r:List Nd} {F F0:Nat→Prop} {u:Value} (hF:F=footP g F0) (h1:SenAt (w.setCell ⟨g,o,none⟩ u) g dg s') (h2:SenAt w g dg s) (h3:s'.l=l) (h4:s'.kd=K) (h5:DigAt w dg K l s'.k r F0) (h6: ¬F0 g) :SensAt (w.setCell ⟨g,o,none⟩ u) g K l s' r F:=
 ⟨dg,F0,hF,h1,h3,h4,h5.keep fun b hb=>Below.heap_setCell _ _ _ _ (by rintro rfl;exact h6 hb),h6⟩
theorem sensor_Tick (w:World) (g K l:Nat) (s:Sen) (r:List Nd) (F:Nat→Prop) (h:SensAt w g K l s r F) (ht:s.ti≤9223372036854775806) (ht0:0≤s.ti) :Calls Tryz.prog 33 #[.pointer (some ⟨g,0,none⟩)] w fun e w'=>e=.returned (.tuple #[])∧SensTo w g K l (tickedS s) r F w':=by
 have HS:=LH h;obtain⟨dg,F0,hF,h1,h2,h3,h4,h5⟩:=h;have hw:wrap64 (s.ti+1) =s.ti+1:=by unfold wrap64;omega
 have cc:=bC h1;have cf:=bF h1;have zb:=lB h1;have H1:=LH h1
 have HX:Hid (∀W,Below w.heap.size w W→SensTo w g K l (tickS s) r F (W.setCell ⟨g,7,none⟩ (.int .i64 (s.ti+1)))):=LH fun W hb=>
  ⟨F,SensAt.set (s':=tickS s) hF (h1.below hb).tick (h1.below hb) h2 h3 (h4.below hb) h5,(Turn.of_below hb).setCell (.inl HS.out.own) _,Grow.refl⟩
 have HY:Hid (∀W,Below w.heap.size w W→SensTo w g K l s r F W):=LH fun W hb=>.below HS.out hb;clear h1 h2 h3 h4 h5 HS hF;unfold tickedS;by_cases hlt:s.ti<s.p.wait
 ·have hd:decide (s.ti<s.p.wait) =true:=by simpa using hlt
  rw [if_pos hlt];generalize tickS s=s' at HX⊢
  go_enter Tryz.func33,Tryz.ntmps33
  go_upto_region 0 with fail;refine rX (by kernel_rfl) (by kernel_rfl) ?_
  repeat (go_big_quiet_step (fail))
  refine wpQuiet_nil ?_;intro w1 hb1;replace hb1:=bX hb1;have B1:Below w.heap.size w w1:=Below.then_ bE hb1;have s1:=B1.size;have z1_0:g<w1.heap.size:=by have:=hb1.size;(try simp at this);omega
  have y1_0:g≤w1.heap.size:=Nat.le_of_lt z1_0;have c1_0:=czB hb1 (g);have f1_0:=fzB hb1 (g);have cc1:=bC (H1.out.below hb1);have B1':=LH B1;clear c1_0 cc;go_wp2_with fail
  go_end0
  exact⟨rfl,HX.out _ B1'.out⟩
 ·have hd:decide (s.ti<s.p.wait) =false:=by simpa using hlt
  rw [if_neg hlt]
  go_enter Tryz.func33,Tryz.ntmps33
  go_upto_region 0 with fail;refine rX (by kernel_rfl) (by kernel_rfl) ?_
  repeat (go_big_quiet_step (fail))
  refine wpQuiet_nil ?_;intro w1 hb1;replace hb1:=bX hb1;have B1:Below w.heap.size w w1:=Below.then_ bE hb1;have s1:=B1.size;have z1_0:g<w1.heap.size:=by have:=hb1.size;(try simp at this);omega
  have y1_0:g≤w1.heap.size:=Nat.le_of_lt z1_0;have c1_0:=czB hb1 (g);have f1_0:=fzB hb1 (g);have B1':=LH B1;go_wp2_with fail
  go_end0
  exact⟨rfl,HY.out _ B1'.out⟩
def DigestPost (K l:Nat) (k:Int) (r:List Nd) (w:World) (e:Ending) (w':World) :Prop:=
 ∃g' F',e=.returned (.pointer (some ⟨g',0,none⟩))∧DigAt w' g' K l k r F'∧(∀b,F' b→w.heap.size≤b)∧Below w.heap.size w w'
theorem sensor_Digest (w:World) (g K l:Nat) (s:Sen) (r:List Nd) (F:Nat→Prop) (h:SensAt w g K l s r F) :Calls Tryz.prog 20 #[.pointer (some ⟨g,0,none⟩)] w (DigestPost K l s.k r w):=by
 obtain⟨dg,F0,hF,h1,h2,h3,h4,h5⟩:=h;have cc:=bC h1;have cf:=bF h1;have zb:=lB h1;have HC:=LH (digest_Clone w dg K l s.k r F0 h4);unfold DigestPost;clear h1 h2 h3 h4 h5 hF
 go_enter Tryz.func20,Tryz.ntmps20
 go_wp2_with fail;refine HC.out.mono ?_;rintro e w1 ⟨g',F',rfl,hd,hF1,hb1⟩;have HD:=LH hd;have HF:=LH hF1;clear hd hF1;go_wp2_with fail;go_ret;exact⟨g',F',rfl,HD.out,HF.out,hb1⟩
def putErr (l:Nat) (s:Sen) (r:List Nd) (x c:Int) :Int:=if s.sent=true then 18 else insErr l r x c
def PutTo (l:Nat) (s:Sen) (r:List Nd) (x c:Int) (r':List Nd) :Prop:=(s.sent=true∧r'=r)∨(s.sent=false∧InsTo l s.k r x c r')
theorem SensAt.dig {w w':World} {g K l dg:Nat} {s:Sen} {r:List Nd} {F F0:Nat→Prop} (hF:F=footP g F0) (h1:SenAt w g dg s) (h2:s.l=l) (h3:s.kd=K) (h5: ¬F0 g) (h:DigTo w dg K l s.k r F0 w') :SensTo w g K l s r F w':=by
 obtain⟨F',d1,d2,d3⟩:=h;subst hF;have hg: ¬F' g:=fun hf=>(d3 g hf).elim h5 fun h=>by have:=lB h1;omega
 refine⟨footP g F',⟨dg,F',rfl,d2.keep h1 h5,h2,h3,d1,hg⟩,d2.mono fun b _ hb=>.inr hb,?_⟩;rintro b (rfl|hb)
 ·exact .inl (.inl rfl)
 ·exact(d3 b hb).imp .inr id
def SPutPost (g K l:Nat) (s:Sen) (r:List Nd) (F:Nat→Prop) (x c:Int) (w:World) (e:Ending) (w':World) :Prop:=
 ∃r',e=.returned (.int .i64 (putErr l s r x c))∧PutTo l s r x c r'∧SensTo w g K l s r' F w'
theorem SPutPost.of {g K l:Nat} {s:Sen} {r r':List Nd} {F:Nat→Prop} {x c:Int} {w w':World} (h:PutTo l s r x c r') (h2:SensTo w g K l s r' F w') :SPutPost g K l s r F x c w (.returned (.int .i64 (putErr l s r x c))) w':=⟨r',rfl,h,h2⟩
theorem sensor_Put (w:World) (g K l:Nat) (s:Sen) (r:List Nd) (F:Nat→Prop) (h:SensAt w g K l s r F) (hn:r.length≤67108864) (x c:Int) :
 Calls Tryz.prog 31 #[.pointer (some ⟨g,0,none⟩),.int .i64 x,.int .i64 c] w (SPutPost g K l s r F x c w):=by
 have HS:=LH h;obtain⟨dg,F0,hF,h1,h2,h3,h4,h5⟩:=h;have cc:=bC h1;have cf:=bF h1;have zb:=lB h1;have HI:=LH (digest_Insert w dg K l s.k r F0 h4 hn x c);have HX:Hid (∀W r',DigTo w dg K l s.k r' F0 W→SensTo w g K l s r' F W):=LH fun W r' hd=>SensAt.dig hF h1 h2 h3 h5 hd;have HP:Hid (∀W r',PutTo l s r x c r'→SensTo w g K l s r' F W→SPutPost g K l s r F x c w (.returned (.int .i64 (putErr l s r x c))) W):=LH fun W r' h1 h2=>.of h1 h2;have HP0:Hid (s.sent=true→putErr l s r x c=18∧PutTo l s r x c r):=LH fun h=>⟨by unfold putErr;rw [if_pos h],.inl ⟨h,rfl⟩⟩;have HP1:Hid (s.sent=false→putErr l s r x c=insErr l r x c∧∀r',InsTo l s.k r x c r'→PutTo l s r x c r'):=LH fun h=>⟨by unfold putErr;rw [if_neg (by simp [h])],fun r' h2=>.inr ⟨h,h2⟩⟩;generalize insErr l r x c=n at HI HP1;generalize putErr l s r x c=n' at HP HP0 HP1;clear h1 h2 h3 h4 h5 hF;obtain⟨b,hb⟩ : ∃b,b=s.sent:=⟨_,rfl⟩;rw [←hb] at cc HP0 HP1;clear hb
 cases b
 ·go_enter Tryz.func31,Tryz.ntmps31
  go_wp2_with fail;refine HI.out.mono ?_;rintro e w1 ⟨r',rfl,hi,hd⟩;have HD:=LH (HX.out _ _ hd);have HI2:=LH hi;clear hd hi;go_wp2_with fail;have HF:=LH (HP.out _ r' ((HP1.out trivial).2 r' HI2.out) HD.out);rw [(HP1.out trivial).1] at HF;exact bR (v:=.int .i64 n) (by simp only [results,Tryz.results31];go_simp) rfl HF.out
 ·go_enter Tryz.func31,Tryz.ntmps31
  go_wp2_with fail;have HF:=LH (HP.out _ r (HP0.out trivial).2 (.below HS.out (w':=w) bE));rw [(HP0.out trivial).1] at HF;exact bR (v:=.int .i64 18) (by simp only [results,Tryz.results31];go_simp) rfl HF.out

theorem DigTo.from {w W w':World} {g K l:Nat} {k:Int} {s:List Nd} {F:Nat→Prop} (hB:Below w.heap.size w W) (h:DigTo W g K l k s F w') :DigTo w g K l k s F w':=by
 obtain⟨F',h1,h2,h3⟩:=h;exact⟨F',h1,(Turn.of_below hB).trans h2 Grow.refl,fun b hb=>(h3 b hb).imp id fun h=>Nat.le_trans hB.size h⟩
def DoPost (g K l:Nat) (k:Int) (r:List Nd) (o:Op3) (F:Nat→Prop) (w:World) (e:Ending) (w':World) :Prop:=
 ∃(r':List Nd) (n:Int),e=.returned (.int .i64 n)∧DoTo l k r o r' n∧DigTo w g K l k r' F w'
theorem DigAt.typed {w:World} {g K l:Nat} {k:Int} {r:List Nd} {F:Nat→Prop} (h:DigAt w g K l k r F) : ∀b,F b→∃t,(t=140∨PoolTypes t)∧TypeAt w b t:=by
 obtain⟨p,F0,rfl,hh,hP,_,_,_⟩:=h.parts;rintro b (rfl|hb)
 ·exact⟨_,.inl rfl,.of hh⟩
 ·obtain⟨t,ht,h⟩:=hP.typed b hb
  exact⟨t,.inr ht,h⟩
theorem SlT.turn {α:Type} {size:Nat} {w w':World} {e:TypeId} {E:Enc α size} {A:Option Addr} {l:List α} {F:Nat→Prop} (h:SlT w e E A l) (ht:Turn F w w') (hF: ∀b,TypeAt w b e→¬F b) :SlT w' e E A l:=by
 rcases h with h| ⟨b,off,hA,hT,hc⟩
 ·exact .inl h
 ·have hk:=ht.block b hT.lt (hF b hT)
  refine .inr ⟨b,off,hA,?_,fun i x hi j u hj=>(World.cell?_of_block hk).trans (hc i x hi j u hj)⟩;obtain⟨cs,fr,hh⟩:=hT;exact⟨cs,fr,hk.trans hh⟩
structure MadeS (w:World) (pb g K l:Nat) (k:Int) (r m:List Nd) (F:Nat→Prop) (A:Option Addr) (cap:Nat) (W:World) :Prop where
 d:DigAt W g K l k r F
 fw: ∀b,F b→w.heap.size≤b
 b:W.heap[pb]? =some (.cells #[.int .i64 l,.slice A m.length cap] 58 (0,0))
 pw:w.heap.size+1<pb
 z:W.heap[w.heap.size+1]? =some (.cells #[.int .i64 0,.slice none 0 0] 58 (0,0))
 s:SlT W 142 encN A m
 blw:Below w.heap.size w W
section
variable {w:World} {pb g K l:Nat} {k:Int} {r r' m m':List Nd} {F F':Nat→Prop} {A A':Option Addr} {cap cap':Nat} {W W':World}
theorem set_one {W:World} {pb t:Nat} {a c u:Value} (h:W.heap[pb]? =some (.cells #[a,c] t (0,0))) : (W.setCell ⟨pb,1,none⟩ u).heap[pb]? =some (.cells #[a,u] t (0,0)):=by
 simp [World.setCell,Array.getElem?_modify,h]
theorem set_nil {W:World} {pb t:Nat} {a c u:Value} (h:W.heap[pb]? =some (.cells #[a,c] t (0,0))) : (W.setCell ⟨pb,0,none⟩ u).heap[pb]? =some (.cells #[u,c] t (0,0)):=by
 simp [World.setCell,Array.getElem?_modify,h]
end
def CallsPost (K l:Nat) (k:Int) (n:Nat) (w:World) (e:Ending) (w':World) :Prop:=
 ∃(g:Nat) (F:Nat→Prop) (r m:List Nd) (A:Option Addr) (cap:Nat),e=.returned (.tuple #[.pointer (some ⟨g,0,none⟩),bagV l A m.length cap])∧DigAt w' g K l k r F∧(∀b,F b→w.heap.size≤b)∧SlT w' 142 encN A m∧Held l k r m∧r.length≤n∧m.length≤n∧(r.length:Int)≤8*k∧Below w.heap.size w w'
structure SenOk (s:Sen) :Prop where
 p:rightS s.p=true
 e0:0≤s.ep
 e1:s.ep≤1099511627776
 t0:0≤s.ti
 t1:s.ti≤s.p.wait
 c:rightC s.cover=true
 me:hasC s.cover s.p.me=true
 h:rightC s.heard=true
theorem SenOk.wait {s:Sen} (h:SenOk s) :s.p.wait≤1048576∧1≤s.p.wait∧isCrew s.p.me=true∧rightC s.p.kids=true∧hasC s.p.kids s.p.me=false:=by
 have:=h.p;simp only [rightS,Bool.and_eq_true,decide_eq_true_eq,Bool.not_eq_true'] at this;exact⟨this.2,this.1.2,this.1.1.1.1,this.1.1.1.2,this.1.1.2⟩
theorem SenOk.kids {s:Sen} (h:SenOk s) :s.p.kids<2^64:=by
 have:=h.wait.2.2.2.1;simp only [rightC,decide_eq_true_eq] at this;omega
theorem SenOk.tick {s:Sen} (h:SenOk s) :SenOk (tickedS s):=by
 unfold tickedS
 split
 ·rename_i h1
  have:=h.t0;exact⟨h.p,h.e0,h.e1,by show 0≤s.ti+1;omega,by show s.ti+1≤s.p.wait;omega,h.c,h.me,h.h⟩
 ·exact h
theorem SenOk.toSent {s:Sen} (h:SenOk s) :SenOk (sentS s):=⟨h.p,h.e0,h.e1,h.t0,h.t1,h.c,h.me,h.h⟩
theorem withC_me {i:Int} (h:isCrew i=true) :rightC (withC 0 i) =true∧hasC (withC 0 i) i=true:=by
 obtain⟨n,rfl,hn⟩:=isCrew_nat h;have hp:=pow_crew hn;have h0:hasN 0 n=false:=by unfold hasN;simp
 have e:withC 0 (n:Int) =2^n:=by
  unfold withC;rw [if_pos h,Int.toNat_natCast,if_neg (by simp [h0])];simp
 rw [e];refine⟨by unfold rightC;simp only [decide_eq_true_eq];omega,?_⟩;unfold hasC hasN;rw [h,Int.toNat_natCast,Nat.div_self hp.2]
 rfl
theorem SenOk.new {l k K:Int} {p:Plc} {ep:Int} (h:newS l k K p ep=true) :SenOk (senNew l k K p ep):=by
 simp only [newS,Bool.and_eq_true,decide_eq_true_eq] at h;have hp:=h.1.1.2;simp only [rightS,Bool.and_eq_true,decide_eq_true_eq,Bool.not_eq_true'] at hp;have hm:=withC_me hp.1.1.1.1;exact⟨h.1.1.2,h.1.2,h.2,Int.le_refl _,by show (0:Int)≤p.wait;omega,hm.1,hm.2,rfl⟩
def senL (l:Nat) (s:Sen) (r:List Nd) :Ltr:=⟨s.ep,s.p.me,s.cover,wireT l s.k r⟩
theorem wireT_len {l:Nat} {k:Int} {r:List Nd} (hl:1≤l∧l≤48) (hf:Fits l r) (hk:1≤k) (hk2:k≤1048576) (hn:r.length≤50000) : (wireT l k r).length≤36+18*r.length:=by
 have h:=WireF.of hl hf hk hk2 (by omega);have h1:=h.l1;have h2:=h.l2;have h3:=h.l3;unfold wireT;rw [sealT_len];simp only [List.length_append,List.length_cons,List.length_nil];omega
theorem senL_right {l:Nat} {s:Sen} {r:List Nd} (ho:SenOk s) (hl:1≤l∧l≤48) (hf:Fits l r) (hk:1≤s.k) (hk2:s.k≤1048576) (hn:r.length≤50000) :rightL (senL l s r) =true:=by
 have h1:=wireT_len hl hf hk hk2 hn;have h2:=ho.e0;have h3:=ho.me;have h4:=ho.c;unfold rightL senL;simp only [Bool.and_eq_true,decide_eq_true_eq];exact⟨⟨⟨h2,h3⟩,h4⟩,by omega⟩
def SendPost (g K l:Nat) (s:Sen) (r:List Nd) (F:Nat→Prop) (w:World) (e:Ending) (w':World) :Prop:=
 if s.sent=true then e=.returned (.tuple #[.string ⟨#[]⟩,.int .i64 18])∧Below w.heap.size w w'
 else if readyS s=false then e=.returned (.tuple #[.string ⟨#[]⟩,.int .i64 22])∧Below w.heap.size w w'
 else ∃ps r',RunTo l (sumR r / s.k) r ps r'∧e=.returned (.tuple #[.string ⟨(ltrT (senL l s r')).toArray⟩,.int .i64 0])∧SensTo w g K l (sentS s) r' F w'
theorem sensor_Send (w:World) (g K l:Nat) (s:Sen) (r:List Nd) (F:Nat→Prop) (h:SensAt w g K l s r F) (ho:SenOk s) (hn:r.length≤50000) :
 Calls Tryz.prog 32 #[.pointer (some ⟨g,0,none⟩)] w (SendPost g K l s r F w):=by
 have HOk:=LH ho;have HS:=LH h;obtain⟨dg,F0,hF,h1,h2,h3,h4,h5⟩:=h;have HR:=LH (sensor_Ready w g dg s h1);have HI:=LH h1;have HGD:=LH h4;have HF0:=LH h5;have HX:Hid (∀W r',DigTo w dg K l s.k r' F0 W→SensTo w g K l s r' F W):=LH fun W r' hd=>SensAt.dig hF h1 h2 h3 h5 hd;have HL:=LH h2;have HK:=LH h3;have HFe:=LH hF;have cc:=bC h1;have cf:=bF h1;have zb:=lB h1;have hll:=h4.l_le;have hfit:=h4.fits;have hk:1≤s.k∧s.k≤1048576:=by obtain⟨p,F0,_,_,_,_,h1,h2⟩:=h4.parts;exact⟨h1,h2⟩
 clear h1 h2 h3 h4 h5 hF ho
 have HP:Hid (∀(e:Ending) (W:World),(s.sent=true→e=.returned (.tuple #[.string ⟨#[]⟩,.int .i64 18])∧Below w.heap.size w W)→(s.sent=false→readyS s=false→e=.returned (.tuple #[.string ⟨#[]⟩,.int .i64 22])∧Below w.heap.size w W)→
  (s.sent=false→readyS s=true→∃ps r',RunTo l (sumR r / s.k) r ps r'∧e=.returned (.tuple #[.string ⟨(ltrT (senL l s r')).toArray⟩,.int .i64 0])∧SensTo w g K l (sentS s) r' F W)→SendPost g K l s r F w e W):=LH fun e W a b c=>by
  unfold SendPost;by_cases q1:s.sent=true
  ·rw [if_pos q1];exact a q1
  ·rw [if_neg q1]
   have q1':s.sent=false:=by simpa using q1
   by_cases q2:readyS s=false
   ·rw [if_pos q2];exact b q1' q2
   ·rw [if_neg q2];exact c q1' (by simpa using q2)
 have HNS:Hid (readyS s=true→s.sent=false):=LH fun h=>by
  unfold readyS at h
  cases hs:s.sent
  ·rfl
  ·rw [hs] at h;simp at h
 obtain⟨b,hb⟩ : ∃b,b=s.sent:=⟨_,rfl⟩;rw [←hb] at cc HP;have hbh:=LH hb;clear hb
 cases b
 ·obtain⟨y,hy⟩ : ∃y,y=readyS s:=⟨_,rfl⟩
  rw [←hy] at HR HP;clear hy
  go_enter Tryz.func32,Tryz.ntmps32
  go_wp2_with fail;refine HR.out.mono ?_;rintro e w1 ⟨rfl,hb1⟩;have B1:=LH hb1;clear hb1
  cases y
  ·go_wp2_with fail
   exact bR (v:=.tuple #[.string ⟨#[]⟩,.int .i64 22]) (by simp only [results,Tryz.results32];go_simp) rfl (HP.out _ _ (fun h=>by simp at h) (fun _ _=>⟨rfl,B1.out⟩) (fun _ h=>by simp at h))
  ·have I1:=LH (HI.out.below B1.out)
   have c1:=bC I1.out;have f1:=bF I1.out;have z1:=lB I1.out;clear cc cf zb;go_wp2_with fail;refine(digest_Compress w1 dg K l s.k r F0 (HGD.out.below B1.out) (by omega)).mono ?_;rintro e w2 ⟨ps,r',rfl,hrun,hto⟩;have hto':=DigTo.from B1.out hto;have S2:=LH (HX.out w2 r' hto');have HRun:=LH hrun;have hfit2:=hrun.folded.fits hfit;have hlen2:=hrun.folded.len hfit;obtain⟨F1,hd2,ht2,hg2⟩:=hto';have I2:Hid (SenAt w2 g dg s):=LH (ht2.keep HI.out HF0.out);have D2:=LH hd2;have HRt:=LH (senL_right (r:=r') HOk.out hll hfit2 hk.1 hk.2 (by omega));have hle:=HOk.out.e1;have hle0:=HOk.out.e0
   have hme:i64 s.p.me:=by
    obtain⟨n,hn,h48⟩:=isCrew_nat HOk.out.wait.2.2.1;rw [hn];constructor <;> omega
   have HEn:=LH (fun W=>letter_Encode W (senL l s r') HRt.out (by show i64 s.ep;constructor <;> omega) hme);have HWi:=LH (wire_Encode w2 dg K l s.k r' F1 hd2 (by omega))
   have HPf:Hid (∀W,Below w2.heap.size w2 W→SendPost g K l s r F w (.returned (.tuple #[.string ⟨(ltrT (senL l s r')).toArray⟩,.int .i64 0])) (W.setCell ⟨g,10,none⟩ (.bool true))):=LH fun W hb=>by
    refine HP.out _ _ (fun h=>by simp at h) (fun _ h=>by simp at h) fun _ _=>⟨ps,r',HRun.out,rfl,?_⟩;have hk:=S2.out.then_ hb;obtain⟨F',k1,k2,k3⟩:=hk;obtain⟨dg',F0',e1,e2,e3,e4,e5,e6⟩:=k1;exact⟨F',SensAt.set (s':=sentS s) e1 e2.toSent e2 e3 e4 e5 e6,k2.setCell (.inl HS.out.own) _,k3⟩
   have HEn2:Hid (∀W,Calls Tryz.prog 84 #[.agg #[.int .i64 s.ep,.int .i64 s.p.me,.int .u64 s.cover,.string ⟨(wireT l s.k r').toArray⟩]] W fun e w'=>e=.returned (.tuple #[.string ⟨(ltrT (senL l s r')).toArray⟩,.int .i64 0])∧Below W.heap.size W w'):=HEn;generalize ltrT (senL l s r') =G at HPf HEn2;generalize wireT l s.k r'=T at HWi HEn2;have c2:=bC I2.out;have f2:=bF I2.out;have z2:=lB I2.out;clear hrun hto ht2 hg2 hd2 c1 f1 z1 I1 HR HX HP S2 HRt HEn hfit2 hlen2;go_wp2_with fail;refine HWi.out.mono ?_;rintro e w3 ⟨rfl,hb3⟩;have I3:=LH (I2.out.below hb3);have B3:=LH hb3;clear hb3 c2 f2 z2;go_upto_region 9 with fail;have I3d:Hid (SenAt w3.drew g dg s):=LH I3.out;have B3d:=LH B3.out.drew;refine wp_region_noPanic ?_;refine wp_region_N (fun w'=>SenAt w' g dg s) [] (by kernel_rfl) (I3.out) (fun hHeld=> ?_);generalize w3.drew=Wd at I3d B3d hHeld⊢;refine nP 0 (Value.pointer (some ⟨g,0,none⟩)) (h:= ?_)
   (try simp only [zA,zB,zC,Act.put,zD,zE,zF])
   refine nP 1 (Value.pointer (some ⟨g,0,none⟩)) (h:= ?_)
   (try simp only [zA,zB,zC,Act.put,zD,zE,zF])
   refine nP 4 (Value.pointer (some ⟨g,0,none⟩)) (h:= ?_)
   (try simp only [zA,zB,zC,Act.put,zD,zE,zF])
   refine nP 5 (Value.pointer (some ⟨g,0,none⟩)) (h:= ?_)
   (try simp only [zA,zB,zC,Act.put,zD,zE,zF])
   refine nP 9 (Value.pointer (some ⟨g,0,none⟩)) (h:= ?_)
   (try simp only [zA,zB,zC,Act.put,zD,zE,zF])
   refine nP 10 (Value.pointer (some ⟨g,0,none⟩)) (h:= ?_)
   (try simp only [zA,zB,zC,Act.put,zD,zE,zF])
   refine nP 2 (Value.pointer (some ⟨g,6,none⟩)) (h:= ?_)
   (try simp only [zA,zB,zC,Act.put,zD,zE,zF])
   refine nP 6 (Value.pointer (some ⟨g,3,none⟩)) (h:= ?_)
   (try simp only [zA,zB,zC,Act.put,zD,zE,zF])
   refine nP 7 (Value.pointer (some ⟨g,3,none⟩)) (h:= ?_)
   (try simp only [zA,zB,zC,Act.put,zD,zE,zF])
   refine nP 11 (Value.pointer (some ⟨g,9,none⟩)) (h:= ?_)
   (try simp only [zA,zB,zC,Act.put,zD,zE,zF])
   refine nT 3 (Value.int .i64 s.ep) (y:=Or.inl ⟨by rfl,fun W hW=>by have q1:=bC hW;have q2:=lB hW;go_simp⟩) (s:=I3d.out) (h:= ?_)
   (try simp only [zA,zB,zC,Act.put,zD,zE,zF])
   refine nT 8 (Value.int .i64 s.p.me) (y:=Or.inl ⟨by rfl,fun W hW=>by have q1:=bC hW;have q2:=lB hW;go_simp⟩) (s:=I3d.out) (h:= ?_)
   (try simp only [zA,zB,zC,Act.put,zD,zE,zF])
   refine nT 12 (Value.int .u64 s.cover) (y:=Or.inl ⟨by rfl,fun W hW=>by have q1:=bC hW;have q2:=lB hW;go_simp⟩) (s:=I3d.out) (h:= ?_)
   (try simp only [zA,zB,zC,Act.put,zD,zE,zF])
   refine nP 13 (Value.string ⟨T.toArray⟩) (h:= ?_)
   (try simp only [zA,zB,zC,Act.put,zD,zE,zF])
   refine nP 14 (Value.agg #[.int .i64 s.ep,.int .i64 s.p.me,.int .u64 s.cover,.string ⟨T.toArray⟩]) (h:= ?_)
   (try simp only [zA,zB,zC,Act.put,zD,zE,zF])
   refine nO (i:=15) (by kernel_rfl) rfl (fun K hK=> ?_);go_simp;refine(HEn2.out _).mono ?_;rintro e w4 ⟨rfl,hb4⟩;have I4:=LH (I3d.out.below hb4);have B4:=LH (Below.then_ B3d.out hb4);clear hb4;refine hK.out _ _ (fun _ _=>I4.out) ?_;clear hK K
   (try simp only [zA,zB,zC,Act.put,zD,zE,zF])
   refine nP 16 (Value.tuple #[.string ⟨G.toArray⟩,.int .i64 0]) (h:= ?_)
   (try simp only [zA,zB,zC,Act.put,zD,zE,zF])
   refine nP 17 (Value.string ⟨G.toArray⟩) (h:= ?_)
   (try simp only [zA,zB,zC,Act.put,zD,zE,zF])
   refine nP 18 (Value.int .i64 0) (h:= ?_)
   (try simp only [zA,zB,zC,Act.put,zD,zE,zF])
   refine nP 19 (Value.string ⟨G.toArray⟩) (h:= ?_)
   (try simp only [zA,zB,zC,Act.put,zD,zE,zF])
   refine nO (i:=20) (by kernel_rfl) rfl (fun K hK=> ?_);go_simp;refine hK.out _ _ (fun _ _=>I4.out) ?_;clear hK K
   (try simp only [zA,zB,zC,Act.put,zD,zE,zF])
   refine nD (by kernel_rfl) ?_ _;refine NoPanic.normal ?_;have c4:=bC I4.out;have f4:=bF I4.out;have z4:=lB I4.out;clear I3 B3 I2;go_wp2_with fail;exact bR (v:=.tuple #[.string ⟨G.toArray⟩,.int .i64 0]) (by simp only [results,Tryz.results32];go_simp) rfl (HPf.out _ B4.out)
 ·go_enter Tryz.func32,Tryz.ntmps32
  go_wp2_with fail;exact bR (v:=.tuple #[.string ⟨#[]⟩,.int .i64 18]) (by simp only [results,Tryz.results32];go_simp) rfl (HP.out _ _ (fun _=>⟨rfl,bE⟩) (fun h=>by simp at h) (fun h=>by simp at h))
def SensIn (w:World) (g K l:Nat) (s:Sen) (r:List Nd) (W:World) :Prop:=∃F,SensAt W g K l s r F∧(∀b,F b→w.heap.size≤b)∧Below w.heap.size w W
section
variable {w W W':World} {g K l:Nat} {s s':Sen} {r r':List Nd}
theorem SensIn.below (h:SensIn w g K l s r W) (hb:Below W.heap.size W W') :SensIn w g K l s r W':=by
 obtain⟨F,h1,h2,h3⟩:=h;exact⟨F,h1.below hb,h2,h3.trans (hb.mono h3.size)⟩
theorem SensIn.to {F:Nat→Prop} (h2: ∀b,F b→w.heap.size≤b) (h3:Below w.heap.size w W) (h:SensTo W g K l s r F W') :SensIn w g K l s r W':=by
 obtain⟨F',k1,k2,k3⟩:=h;exact⟨F',k1,fun b hb=>(k3 b hb).elim (h2 b) fun h=>Nat.le_trans h3.size h,h3.trans (k2.below h2 h3.size)⟩
theorem SensIn.le (h:SensIn w g K l s r W) :Below w.heap.size w W:=by
 obtain⟨F,_,_,h3⟩:=h;exact h3
theorem SensIn.fits (h:SensIn w g K l s r W) :Fits l r:=by
 obtain⟨F,⟨dg,F0,_,_,_,_,h,_⟩,_⟩:=h;exact h.fits
theorem SensIn.at_ (h:SensIn w g K l s r W) : ∃dg,SenAt W g dg s:=by
 obtain⟨F,⟨dg,F0,_,h,_⟩,_⟩:=h;exact⟨dg,h⟩
theorem SensIn.put (h:SensIn w g K l s r W) (hn:r.length≤67108864) (x c:Int) :Calls Tryz.prog 31 #[.pointer (some ⟨g,0,none⟩),.int .i64 x,.int .i64 c] W fun e W'=>∃r',e=.returned (.int .i64 (putErr l s r x c))∧PutTo l s r x c r'∧SensIn w g K l s r' W':=by
 obtain⟨F,h1,h2,h3⟩:=h;refine(sensor_Put W g K l s r F h1 hn x c).mono ?_;rintro e W' ⟨r',he,hp,ht⟩;exact⟨r',he,hp,SensIn.to h2 h3 ht⟩
theorem SensIn.tick (h:SensIn w g K l s r W) (ht:s.ti≤9223372036854775806) (ht0:0≤s.ti) :Calls Tryz.prog 33 #[.pointer (some ⟨g,0,none⟩)] W fun e W'=>e=.returned (.tuple #[])∧SensIn w g K l (tickedS s) r W':=by
 obtain⟨F,h1,h2,h3⟩:=h;refine(sensor_Tick W g K l s r F h1 ht ht0).mono ?_;rintro e W' ⟨he,ht⟩;exact⟨he,SensIn.to h2 h3 ht⟩
def SendIn (w:World) (g K l:Nat) (s:Sen) (r:List Nd) (e:Ending) (W':World) :Prop:=
 if s.sent=true then e=.returned (.tuple #[.string ⟨#[]⟩,.int .i64 18])∧SensIn w g K l s r W'
 else if readyS s=false then e=.returned (.tuple #[.string ⟨#[]⟩,.int .i64 22])∧SensIn w g K l s r W'
 else ∃ps r',RunTo l (sumR r / s.k) r ps r'∧e=.returned (.tuple #[.string ⟨(ltrT (senL l s r')).toArray⟩,.int .i64 0])∧SensIn w g K l (sentS s) r' W'
theorem SensIn.send (h:SensIn w g K l s r W) (ho:SenOk s) (hn:r.length≤50000) :Calls Tryz.prog 32 #[.pointer (some ⟨g,0,none⟩)] W (SendIn w g K l s r):=by
 have h0:=h;obtain⟨F,h1,h2,h3⟩:=h;refine(sensor_Send W g K l s r F h1 ho hn).mono ?_;intro e W' hp;unfold SendPost at hp;unfold SendIn
 split
 ·rename_i q;rw [if_pos q] at hp;exact⟨hp.1,h0.below hp.2⟩
 ·rename_i q
  rw [if_neg q] at hp
  split
  ·rename_i q2;rw [if_pos q2] at hp;exact⟨hp.1,h0.below hp.2⟩
  ·rename_i q2
   rw [if_neg q2] at hp;obtain⟨ps,r',k1,k2,k3⟩:=hp;exact⟨ps,r',k1,k2,SensIn.to h2 h3 k3⟩
theorem SensIn.ready (h:SensIn w g K l s r W) :Calls Tryz.prog 30 #[.pointer (some ⟨g,0,none⟩)] W fun e W'=>e=.returned (.bool (readyS s))∧Below W.heap.size W W':=by
 obtain⟨dg,h1⟩:=h.at_;exact sensor_Ready W g dg s h1
theorem SensIn.sent (h:SensIn w g K l s r W) :Calls Tryz.prog 34 #[.pointer (some ⟨g,0,none⟩)] W fun e W'=>e=.returned (.bool s.sent)∧Below W.heap.size W W':=by
 obtain⟨dg,h1⟩:=h.at_;exact sensor_Sent W g dg s h1
end
def NewIn (w:World) (K l:Nat) (s:Sen) (e:Ending) (W':World) :Prop:=∃g,e=.returned (.tuple #[.pointer (some ⟨g,0,none⟩),.int .i64 0])∧SensIn w g K l s [] W'
theorem SensIn.new (w:World) (l K:Nat) (k:Int) (p:Plc) (ep:Int) (hk:p.kids<2^64) (h:newS l k K p ep=true) :Calls Tryz.prog 29 #[confV l k K,plcV p,.int .i64 ep] w (NewIn w K l (senNew l k K p ep)):=by
 refine(sensor_New w l K k p ep hk h).mono ?_;rintro e W' ⟨g,F,he,h1,h2,h3⟩;exact⟨g,he,F,h1,h2,h3⟩
theorem InsTo.len {l:Nat} {k:Int} {r r':List Nd} {x c:Int} (h:InsTo l k r x c r') (hf:Fits l r) :r'.length≤r.length+1:=by
 rcases h with ⟨_,rfl⟩ | ⟨_,s,h,rfl⟩
 ·omega
 ·have:=(h.same hf).2.2
  have:=addR_len s (2^l+x) c;omega
theorem PutTo.len {l:Nat} {s:Sen} {r r':List Nd} {x c:Int} (h:PutTo l s r x c r') (hf:Fits l r) :r'.length≤r.length+1:=by
 rcases h with ⟨_,rfl⟩ | ⟨_,h⟩
 ·omega
 ·exact h.len hf
def exS (n:Nat) :Sen:=⟨3,2,2,⟨0,2,5⟩,0,n,0,1,false⟩
theorem exS_ok {n:Nat} (h:n≤5) :SenOk (exS n):=⟨by show rightS ⟨0,2,5⟩ =true;decide,Int.le_refl 0,by show (0:Int)≤1099511627776;decide,by show (0:Int)≤n;omega,by show (n:Int)≤5;omega,by show rightC 1=true;decide,by show hasC 1 0=true;decide,by show rightC 0=true;decide⟩
theorem exS_new:senNew 3 2 2 ⟨0,2,5⟩ 0=exS 0:=by
 unfold senNew exS;have:withC 0 (0:Int) =1:=by decide
 simp only [this]
 rfl
theorem exS_tick {n:Nat} (h:n<5) :tickedS (exS n) =exS (n+1):=by
 unfold tickedS;rw [if_pos (by show (n:Int) <5;omega)]
 rfl
theorem alive31 (w:World) :Calls Tryz.prog 7 #[] w fun e w'=>e=.returned (.bool true)∧Below w.heap.size w w':=by
 have HN:=LH (SensIn.new w 3 2 2 ⟨0,2,5⟩ 0 (by decide) (by decide));rw [show ((3:Nat) :Int) =3 from rfl,show ((2:Nat) :Int) =2 from rfl,exS_new] at HN;unfold confV plcV at HN;dsimp only at HN;have r0:readyS (exS 0) =false:=by decide
 have p0:putErr 3 (exS 0) [] 5 1=0:=by decide
 have s0: (exS 0).sent=false:=rfl
 go_enter Tryz.func7,Tryz.ntmps7
 go_wp2_with fail;refine HN.out.mono ?_;rintro e w1 ⟨g,rfl,h1⟩;have S1:=LH h1;clear h1;go_wp2_with fail;refine S1.out.ready.mono ?_;rintro e w2 ⟨rfl,hb2⟩;rw [r0];have S2:=LH (S1.out.below hb2);clear hb2 r0;go_wp2_with fail;refine(S2.out.put (by simp) 5 1).mono ?_;rintro e w3 ⟨r',rfl,hp,h3⟩;rw [p0];have hl3:=hp.len S2.out.fits;have S3:=LH h3;clear hp h3 p0;simp only [List.length_nil] at hl3;go_wp2_with fail;refine(S3.out.send (exS_ok (by omega)) (by omega)).mono ?_;intro e w4 h4
 have h4:e=.returned (.tuple #[.string ⟨#[]⟩,.int .i64 22])∧SensIn w g 2 3 (exS 0) r' w4:=by
  unfold SendIn at h4;rw [if_neg (by decide),if_pos (by decide)] at h4;exact h4
 obtain⟨rfl,k4⟩:=h4;have S4:=LH k4;clear k4;go_wp2_with fail
 go_loopw [33] (fun j wr=>∃q:Nat,j=.int .i64 q∧q≤5∧SensIn w g 2 3 (exS q) r' wr) (fun j _=>5 - (intOf j).toNat)
 case atStart=>exact⟨0,rfl,by omega,S4.out⟩
 case round=>
  obtain⟨q,rfl,hq,hS⟩:=hrel;have SR:=LH hS;clear hS;by_cases hlt:q<5
  ·have hqi: (q:Int) <5:=by omega
   have ht:=exS_tick hlt;go_wp2_with fail;refine(SR.out.tick (by show (q:Int)≤_;omega) (by show (0:Int)≤q;omega)).mono ?_;rintro e w5 ⟨rfl,h5⟩;rw [ht] at h5;have S5:=LH h5;clear h5 ht;go_wp2_with fail;go_roundw
   case rel=>exact⟨q+1,by go_num,by omega,S5.out⟩
   case measure=>simp [intOf];omega
  ·obtain rfl:q=5:=by omega
   clear hlt hq;go_wp2_with fail;refine(SR.out.send (exS_ok (by omega)) (by omega)).mono ?_;intro e w5 h5
   have h5: ∃r'' G,e=.returned (.tuple #[.string G,.int .i64 0])∧SensIn w g 2 3 (sentS (exS 5)) r'' w5∧r''.length≤r'.length:=by
    unfold SendIn at h5;rw [if_neg (by decide),if_neg (by decide)] at h5;obtain⟨ps,r'',k1,k2,k3⟩:=h5;exact⟨r'',_,k2,k3,k1.folded.len SR.out.fits⟩
   obtain⟨r'',G,rfl,h5,hl5⟩:=h5;have S5:=LH h5;clear h5;go_wp2_with fail;refine S5.out.sent.mono ?_;rintro e w6 ⟨rfl,hb6⟩;have S6:=LH (S5.out.below hb6);have e6: (sentS (exS 5)).sent=true:=rfl;rw [e6];clear hb6 e6;go_wp2_with fail;refine(S6.out.put (by omega) 5 1).mono ?_;rintro e w7 ⟨r7,rfl,_,h7⟩;have e7:putErr 3 (sentS (exS 5)) r'' 5 1=18:=by unfold putErr;rw [if_pos (show (sentS (exS 5)).sent=true from rfl)]
   rw [e7];have B7:=LH h7.le;clear h7 e7;go_wp2_with fail;exact bR (v:=.bool true) (by simp only [results,Tryz.results7];go_simp) rfl ⟨rfl,B7.out⟩
abbrev q14 (W:World) (b:Nat) (v0 v1 v2 v3 v4 v5 v6 v7 v8 v9 v10 v11 v12 v13:Value) :World:=((((((((((((((W.setCell ⟨b,0,none⟩ v0).setCell ⟨b,1,none⟩ v1).setCell ⟨b,2,none⟩ v2).setCell ⟨b,3,none⟩ v3).setCell ⟨b,4,none⟩ v4).setCell ⟨b,5,none⟩ v5).setCell ⟨b,6,none⟩ v6).setCell ⟨b,7,none⟩ v7).setCell ⟨b,8,none⟩ v8).setCell ⟨b,9,none⟩ v9).setCell ⟨b,10,none⟩ v10).setCell ⟨b,11,none⟩ v11).setCell ⟨b,12,none⟩ v12).setCell ⟨b,13,none⟩ v13)
theorem q14e (W:World) (b:Nat) (v0 v1 v2 v3 v4 v5 v6 v7 v8 v9 v10 v11 v12 v13:Value) : ((((((((((((((W.setCell ⟨b,0,none⟩ v0).setCell ⟨b,1,none⟩ v1).setCell ⟨b,2,none⟩ v2).setCell ⟨b,3,none⟩ v3).setCell ⟨b,4,none⟩ v4).setCell ⟨b,5,none⟩ v5).setCell ⟨b,6,none⟩ v6).setCell ⟨b,7,none⟩ v7).setCell ⟨b,8,none⟩ v8).setCell ⟨b,9,none⟩ v9).setCell ⟨b,10,none⟩ v10).setCell ⟨b,11,none⟩ v11).setCell ⟨b,12,none⟩ v12).setCell ⟨b,13,none⟩ v13) =q14 W b v0 v1 v2 v3 v4 v5 v6 v7 v8 v9 v10 v11 v12 v13:=rfl
theorem store14 {W:World} {b t:Nat} {z0 z1 z2 z3 z4 z5 z6 z7 z8 z9 z10 z11 z12 z13:Value} (h:W.heap[b]? =some (.cells #[z0,z1,z2,z3,z4,z5,z6,z7,z8,z9,z10,z11,z12,z13] t (0,0))) (v0 v1 v2 v3 v4 v5 v6 v7 v8 v9 v10 v11 v12 v13:Value) : (q14 W b v0 v1 v2 v3 v4 v5 v6 v7 v8 v9 v10 v11 v12 v13).heap[b]? =some (.cells #[v0,v1,v2,v3,v4,v5,v6,v7,v8,v9,v10,v11,v12,v13] t (0,0)):=by
 have h0: (W.setCell ⟨b,0,none⟩ v0).heap[b]? =some (.cells #[v0,z1,z2,z3,z4,z5,z6,z7,z8,z9,z10,z11,z12,z13] t (0,0)):=zH (i:=0) h v0;have h1: ((W.setCell ⟨b,0,none⟩ v0).setCell ⟨b,1,none⟩ v1).heap[b]? =some (.cells #[v0,v1,z2,z3,z4,z5,z6,z7,z8,z9,z10,z11,z12,z13] t (0,0)):=zH (i:=1) h0 v1;have h2: (((W.setCell ⟨b,0,none⟩ v0).setCell ⟨b,1,none⟩ v1).setCell ⟨b,2,none⟩ v2).heap[b]? =some (.cells #[v0,v1,v2,z3,z4,z5,z6,z7,z8,z9,z10,z11,z12,z13] t (0,0)):=zH (i:=2) h1 v2;have h3: ((((W.setCell ⟨b,0,none⟩ v0).setCell ⟨b,1,none⟩ v1).setCell ⟨b,2,none⟩ v2).setCell ⟨b,3,none⟩ v3).heap[b]? =some (.cells #[v0,v1,v2,v3,z4,z5,z6,z7,z8,z9,z10,z11,z12,z13] t (0,0)):=zH (i:=3) h2 v3;have h4: (((((W.setCell ⟨b,0,none⟩ v0).setCell ⟨b,1,none⟩ v1).setCell ⟨b,2,none⟩ v2).setCell ⟨b,3,none⟩ v3).setCell ⟨b,4,none⟩ v4).heap[b]? =some (.cells #[v0,v1,v2,v3,v4,z5,z6,z7,z8,z9,z10,z11,z12,z13] t (0,0)):=zH (i:=4) h3 v4;have h5: ((((((W.setCell ⟨b,0,none⟩ v0).setCell ⟨b,1,none⟩ v1).setCell ⟨b,2,none⟩ v2).setCell ⟨b,3,none⟩ v3).setCell ⟨b,4,none⟩ v4).setCell ⟨b,5,none⟩ v5).heap[b]? =some (.cells #[v0,v1,v2,v3,v4,v5,z6,z7,z8,z9,z10,z11,z12,z13] t (0,0)):=zH (i:=5) h4 v5;have h6: (((((((W.setCell ⟨b,0,none⟩ v0).setCell ⟨b,1,none⟩ v1).setCell ⟨b,2,none⟩ v2).setCell ⟨b,3,none⟩ v3).setCell ⟨b,4,none⟩ v4).setCell ⟨b,5,none⟩ v5).setCell ⟨b,6,none⟩ v6).heap[b]? =some (.cells #[v0,v1,v2,v3,v4,v5,v6,z7,z8,z9,z10,z11,z12,z13] t (0,0)):=zH (i:=6) h5 v6;have h7: ((((((((W.setCell ⟨b,0,none⟩ v0).setCell ⟨b,1,none⟩ v1).setCell ⟨b,2,none⟩ v2).setCell ⟨b,3,none⟩ v3).setCell ⟨b,4,none⟩ v4).setCell ⟨b,5,none⟩ v5).setCell ⟨b,6,none⟩ v6).setCell ⟨b,7,none⟩ v7).heap[b]? =some (.cells #[v0,v1,v2,v3,v4,v5,v6,v7,z8,z9,z10,z11,z12,z13] t (0,0)):=zH (i:=7) h6 v7;have h8: (((((((((W.setCell ⟨b,0,none⟩ v0).setCell ⟨b,1,none⟩ v1).setCell ⟨b,2,none⟩ v2).setCell ⟨b,3,none⟩ v3).setCell ⟨b,4,none⟩ v4).setCell ⟨b,5,none⟩ v5).setCell ⟨b,6,none⟩ v6).setCell ⟨b,7,none⟩ v7).setCell ⟨b,8,none⟩ v8).heap[b]? =some (.cells #[v0,v1,v2,v3,v4,v5,v6,v7,v8,z9,z10,z11,z12,z13] t (0,0)):=zH (i:=8) h7 v8;have h9: ((((((((((W.setCell ⟨b,0,none⟩ v0).setCell ⟨b,1,none⟩ v1).setCell ⟨b,2,none⟩ v2).setCell ⟨b,3,none⟩ v3).setCell ⟨b,4,none⟩ v4).setCell ⟨b,5,none⟩ v5).setCell ⟨b,6,none⟩ v6).setCell ⟨b,7,none⟩ v7).setCell ⟨b,8,none⟩ v8).setCell ⟨b,9,none⟩ v9).heap[b]? =some (.cells #[v0,v1,v2,v3,v4,v5,v6,v7,v8,v9,z10,z11,z12,z13] t (0,0)):=zH (i:=9) h8 v9;have h10: (((((((((((W.setCell ⟨b,0,none⟩ v0).setCell ⟨b,1,none⟩ v1).setCell ⟨b,2,none⟩ v2).setCell ⟨b,3,none⟩ v3).setCell ⟨b,4,none⟩ v4).setCell ⟨b,5,none⟩ v5).setCell ⟨b,6,none⟩ v6).setCell ⟨b,7,none⟩ v7).setCell ⟨b,8,none⟩ v8).setCell ⟨b,9,none⟩ v9).setCell ⟨b,10,none⟩ v10).heap[b]? =some (.cells #[v0,v1,v2,v3,v4,v5,v6,v7,v8,v9,v10,z11,z12,z13] t (0,0)):=zH (i:=10) h9 v10;have h11: ((((((((((((W.setCell ⟨b,0,none⟩ v0).setCell ⟨b,1,none⟩ v1).setCell ⟨b,2,none⟩ v2).setCell ⟨b,3,none⟩ v3).setCell ⟨b,4,none⟩ v4).setCell ⟨b,5,none⟩ v5).setCell ⟨b,6,none⟩ v6).setCell ⟨b,7,none⟩ v7).setCell ⟨b,8,none⟩ v8).setCell ⟨b,9,none⟩ v9).setCell ⟨b,10,none⟩ v10).setCell ⟨b,11,none⟩ v11).heap[b]? =some (.cells #[v0,v1,v2,v3,v4,v5,v6,v7,v8,v9,v10,v11,z12,z13] t (0,0)):=zH (i:=11) h10 v11;have h12: (((((((((((((W.setCell ⟨b,0,none⟩ v0).setCell ⟨b,1,none⟩ v1).setCell ⟨b,2,none⟩ v2).setCell ⟨b,3,none⟩ v3).setCell ⟨b,4,none⟩ v4).setCell ⟨b,5,none⟩ v5).setCell ⟨b,6,none⟩ v6).setCell ⟨b,7,none⟩ v7).setCell ⟨b,8,none⟩ v8).setCell ⟨b,9,none⟩ v9).setCell ⟨b,10,none⟩ v10).setCell ⟨b,11,none⟩ v11).setCell ⟨b,12,none⟩ v12).heap[b]? =some (.cells #[v0,v1,v2,v3,v4,v5,v6,v7,v8,v9,v10,v11,v12,z13] t (0,0)):=zH (i:=12) h11 v12;have h13: ((((((((((((((W.setCell ⟨b,0,none⟩ v0).setCell ⟨b,1,none⟩ v1).setCell ⟨b,2,none⟩ v2).setCell ⟨b,3,none⟩ v3).setCell ⟨b,4,none⟩ v4).setCell ⟨b,5,none⟩ v5).setCell ⟨b,6,none⟩ v6).setCell ⟨b,7,none⟩ v7).setCell ⟨b,8,none⟩ v8).setCell ⟨b,9,none⟩ v9).setCell ⟨b,10,none⟩ v10).setCell ⟨b,11,none⟩ v11).setCell ⟨b,12,none⟩ v12).setCell ⟨b,13,none⟩ v13).heap[b]? =some (.cells #[v0,v1,v2,v3,v4,v5,v6,v7,v8,v9,v10,v11,v12,v13] t (0,0)):=zH (i:=13) h12 v13;exact h13
theorem store14_below {w W:World} {b base:Nat} (h:Below base w W) (hb:base≤b) (v0 v1 v2 v3 v4 v5 v6 v7 v8 v9 v10 v11 v12 v13:Value) :Below base w (q14 W b v0 v1 v2 v3 v4 v5 v6 v7 v8 v9 v10 v11 v12 v13):=
 Below.setCell (p:=⟨b,13,none⟩) (Below.setCell (p:=⟨b,12,none⟩) (Below.setCell (p:=⟨b,11,none⟩) (Below.setCell (p:=⟨b,10,none⟩) (Below.setCell (p:=⟨b,9,none⟩) (Below.setCell (p:=⟨b,8,none⟩) (Below.setCell (p:=⟨b,7,none⟩) (Below.setCell (p:=⟨b,6,none⟩) (Below.setCell (p:=⟨b,5,none⟩) (Below.setCell (p:=⟨b,4,none⟩) (Below.setCell (p:=⟨b,3,none⟩) (Below.setCell (p:=⟨b,2,none⟩) (Below.setCell (p:=⟨b,1,none⟩) (Below.setCell (p:=⟨b,0,none⟩) (h) hb v0) hb v1) hb v2) hb v3) hb v4) hb v5) hb v6) hb v7) hb v8) hb v9) hb v10) hb v11) hb v12) hb v13
def refC (s:Sen) (A:Option Addr) (n c:Nat) :Array Value:= #[.int .i64 s.l,.int .i64 s.k,.int .i64 s.kd,.int .i64 s.p.me,.int .i64 s.p.wait,.int .u64 s.p.kids,.int .i64 s.ep,.int .i64 s.ti,.int .u64 s.heard,.int .u64 s.cover,.bool s.sent,.int .i64 s.k,.int .i64 s.l,.slice A n c]
def refV (s:Sen) (A:Option Addr) (n c:Nat) :Value:=.agg (refC s A n c)
theorem ref31_Is (w:World) (l k K:Int) (p:Plc) (ep:Int) (hk:p.kids<2^64) :
 Calls Tryz.prog 35 #[confV l k K,.int .i64 p.me,.int .u64 p.kids,.int .i64 p.wait,.int .i64 ep] w fun e w'=>e=.returned (.bool (newS l k K p ep))∧Below w.heap.size w w':=by
 obtain⟨me,kids,wait⟩:=p;dsimp only at*;have HD:=LH (fun W=>ref13_Is W l k K);have HI:=LH (fun W=>ref27_Is me W);have HR:=LH (fun W=>ref27_Right kids W);have HH:=LH (fun W=>ref27_Has kids me hk W);have B0:Hid (Below w.heap.size w (w.alloc (.cells #[.int .i64 l,.int .i64 k,.int .i64 K] 23))):=LH bE;obtain⟨z,hz⟩ : ∃z,z=newS l k K ⟨me,kids,wait⟩ ep:=⟨_,rfl⟩;rw [←hz];have HZ:=LH hz;unfold newS rightS at HZ;dsimp only at HZ;unfold confV;clear hk hz;generalize isDig l k K=z0 at HD HZ;generalize isCrew me=z1 at HI HZ;generalize rightC kids=z2 at HR HZ;generalize hasC kids me=z3 at HH HZ
 go_enter Tryz.func35,Tryz.ntmps35
 go_wp2_with fail;refine(HD.out _).mono ?_;rintro e w1 ⟨rfl,hb1⟩;have B1:=LH (B0.out.trans (hb1.mono (by simp)));clear hb1
 cases z0
 ·go_wp2_with fail
  exact bR (v:=.bool false) (by simp only [results,Tryz.results35];go_simp) rfl ⟨by rw [HZ.out];rfl,B1.out⟩
 go_wp2_with fail;refine(HI.out _).mono ?_;rintro e w2 ⟨rfl,hb2⟩;have B2:=LH (Below.then_ B1.out hb2);clear hb2
 cases z1
 ·go_wp2_with fail
  exact bR (v:=.bool false) (by simp only [results,Tryz.results35];go_simp) rfl ⟨by rw [HZ.out];rfl,B2.out⟩
 go_wp2_with fail;refine(HR.out _).mono ?_;rintro e w3 ⟨rfl,hb3⟩;have B3:=LH (Below.then_ B2.out hb3);clear hb3
 cases z2
 ·go_wp2_with fail
  exact bR (v:=.bool false) (by simp only [results,Tryz.results35];go_simp) rfl ⟨by rw [HZ.out];rfl,B3.out⟩
 go_wp2_with fail;refine(HH.out _).mono ?_;rintro e w4 ⟨rfl,hb4⟩;have B4:=LH (Below.then_ B3.out hb4);clear hb4
 cases z3
 ·by_cases h1:1≤wait
  ·have d1:decide (1≤wait) =true:=by simpa using h1
   by_cases h2:wait≤1048576
   ·have d2:decide (wait≤1048576) =true:=by simpa using h2
    by_cases h3:0≤ep
    ·have d3:decide (0≤ep) =true:=by simpa using h3
     rw [d1,d2,d3] at HZ;go_wp2_with fail;exact bR (v:=.bool (decide (ep≤1099511627776))) (by simp only [results,Tryz.results35];go_simp) rfl ⟨by rw [HZ.out];rfl,B4.out⟩
    ·have d3:decide (0≤ep) =false:=by simpa using h3
     rw [d1,d2,d3] at HZ;go_wp2_with fail;exact bR (v:=.bool false) (by simp only [results,Tryz.results35];go_simp) rfl ⟨by rw [HZ.out];rfl,B4.out⟩
   ·have d2:decide (wait≤1048576) =false:=by simpa using h2
    rw [d1,d2] at HZ;go_wp2_with fail;exact bR (v:=.bool false) (by simp only [results,Tryz.results35];go_simp) rfl ⟨by rw [HZ.out];rfl,B4.out⟩
  ·have d1:decide (1≤wait) =false:=by simpa using h1
   rw [d1] at HZ;go_wp2_with fail;exact bR (v:=.bool false) (by simp only [results,Tryz.results35];go_simp) rfl ⟨by rw [HZ.out];rfl,B4.out⟩
 ·go_wp2_with fail
  exact bR (v:=.bool false) (by simp only [results,Tryz.results35];go_simp) rfl ⟨by rw [HZ.out];rfl,B4.out⟩
def RefAt (W:World) (g:Nat) (s:Sen) (A:Option Addr) (n c:Nat) :Prop:=W.heap[g]? =some (.cells (refC s A n c) 37 (0,0))
theorem ref31_New (w:World) (l k kd:Int) (p:Plc) (ep:Int) :Calls Tryz.prog 36 #[confV l k kd,.int .i64 p.me,.int .u64 p.kids,.int .i64 p.wait,.int .i64 ep] w fun e w'=>e=.returned (refV (senNew l k kd p ep) none 0 0)∧Below w.heap.size w w':=by
 obtain⟨me,kids,wait⟩:=p;unfold senNew refV refC confV;dsimp only;have HW:=LH (fun W=>ref27_With 0 me (by decide) W);have HN:=LH (fun W=>ref13_New W l k kd)
 go_enter Tryz.func36,Tryz.ntmps36
 go_upto_region 1 with fail;have X0:Hid (((w.alloc (.cells #[.int .i64 l,.int .i64 k,.int .i64 kd] 23)).alloc (.cells #[.int .i64 0,.int .i64 0,.int .i64 0,.int .i64 0,.int .i64 0,.int .u64 0,.int .i64 0,.int .i64 0,.int .u64 0,.int .u64 0,.bool false,.int .i64 0,.int .i64 0,.slice none 0 0] 37)).heap[w.heap.size]? =some (.cells #[.int .i64 l,.int .i64 k,.int .i64 kd] 23 (0,0))):=LH ((heap_new_lt _ _ _ (by simp)).trans (heap_alloc_new w _));have Y0:Hid (((w.alloc (.cells #[.int .i64 l,.int .i64 k,.int .i64 kd] 23)).alloc (.cells #[.int .i64 0,.int .i64 0,.int .i64 0,.int .i64 0,.int .i64 0,.int .u64 0,.int .i64 0,.int .i64 0,.int .u64 0,.int .u64 0,.bool false,.int .i64 0,.int .i64 0,.slice none 0 0] 37)).heap[w.heap.size+1]? =some (.cells #[.int .i64 0,.int .i64 0,.int .i64 0,.int .i64 0,.int .i64 0,.int .u64 0,.int .i64 0,.int .i64 0,.int .u64 0,.int .u64 0,.bool false,.int .i64 0,.int .i64 0,.slice none 0 0] 37 (0,0))):=LH (heap_new_at (w.alloc _) _ _ (by simp));have B0:Hid (Below w.heap.size w ((w.alloc (.cells #[.int .i64 l,.int .i64 k,.int .i64 kd] 23)).alloc (.cells #[.int .i64 0,.int .i64 0,.int .i64 0,.int .i64 0,.int .i64 0,.int .u64 0,.int .i64 0,.int .i64 0,.int .u64 0,.int .u64 0,.bool false,.int .i64 0,.int .i64 0,.slice none 0 0] 37))):=LH bE;generalize (w.alloc (.cells #[.int .i64 l,.int .i64 k,.int .i64 kd] 23)).alloc (.cells #[.int .i64 0,.int .i64 0,.int .i64 0,.int .i64 0,.int .i64 0,.int .u64 0,.int .i64 0,.int .i64 0,.int .u64 0,.int .u64 0,.bool false,.int .i64 0,.int .i64 0,.slice none 0 0] 37) =W0 at X0 Y0 B0⊢;replace Y0:Hid (W0.drew.heap[w.heap.size+1]? =_):=Y0;replace B0:=LH B0.out.drew;refine wp_region_noPanic ?_;refine wp_region_N (fun w'=>w'.heap[w.heap.size]? =some (.cells #[.int .i64 l,.int .i64 k,.int .i64 kd] 23 (0,0))) [10] (by kernel_rfl) (X0.out) (fun hHeld=> ?_);generalize W0.drew=Wd at Y0 B0 hHeld⊢;refine nT 0 (Value.agg #[.int .i64 l,.int .i64 k,.int .i64 kd]) (y:=Or.inl ⟨by rfl,fun W hW=>by have q1:=bC hW;have q2:=lB hW;go_simp⟩) (s:=hHeld) (h:= ?_)
 (try simp only [zA,zB,zC,Act.put,zD,zE,zF])
 refine nP 1 (Value.int .i64 me) (h:= ?_)
 (try simp only [zA,zB,zC,Act.put,zD,zE,zF])
 refine nP 2 (Value.int .i64 wait) (h:= ?_)
 (try simp only [zA,zB,zC,Act.put,zD,zE,zF])
 refine nP 3 (Value.int .u64 kids) (h:= ?_)
 (try simp only [zA,zB,zC,Act.put,zD,zE,zF])
 refine nP 4 (Value.int .i64 ep) (h:= ?_)
 (try simp only [zA,zB,zC,Act.put,zD,zE,zF])
 refine nP 5 (Value.int .i64 me) (h:= ?_)
 (try simp only [zA,zB,zC,Act.put,zD,zE,zF])
 refine nT 7 (Value.agg #[.int .i64 l,.int .i64 k,.int .i64 kd]) (y:=Or.inl ⟨by rfl,fun W hW=>by have q1:=bC hW;have q2:=lB hW;go_simp⟩) (s:=hHeld) (h:= ?_)
 (try simp only [zA,zB,zC,Act.put,zD,zE,zF])
 refine nO (i:=6) (by kernel_rfl) rfl (fun K hK=> ?_);go_simp;refine(HW.out _).mono ?_;rintro e w1 ⟨rfl,hb1⟩;have Y1:=LH (bB Y0.out hb1);have B1:=LH (Below.then_ B0.out hb1);replace hHeld:=bB hHeld hb1;clear hb1;refine hK.out _ _ (fun _ _=>hHeld) ?_;clear hK K
 (try simp only [zA,zB,zC,Act.put,zD,zE,zF])
 refine nO (i:=8) (by kernel_rfl) rfl (fun K hK=> ?_);go_simp;refine(HN.out _).mono ?_;rintro e w2 ⟨rfl,hb2⟩;have Y2:=LH (bB Y1.out hb2);have B2:=LH (Below.then_ B1.out hb2);replace hHeld:=bB hHeld hb2;clear hb2;refine hK.out _ _ (fun _ _=>hHeld) ?_;clear hK K
 (try simp only [zA,zB,zC,Act.put,zD,zE,zF])
 refine nP 9 (Value.agg #[.int .i64 l,.int .i64 k,.int .i64 kd,.int .i64 me,.int .i64 wait,.int .u64 kids,.int .i64 ep,.int .i64 0,.int .u64 0,.int .u64 ((withC 0 me:Nat) :Int),.bool false,.int .i64 k,.int .i64 l,.slice none 0 0]) (h:= ?_)
 (try simp only [zA,zB,zC,Act.put,zD,zE,zF])
 have q3:=bC Y2.out;have q4:=lB Y2.out;have q5:=bF Y2.out;refine nO (i:=10) (by kernel_rfl) rfl (fun K hK=> ?_);go_simp;go_simp;refine hK.out _ _ (fun h _=>absurd (by decide) h) ?_;clear hK K
 (try simp only [zA,zB,zC,Act.put,zD,zE,zF])
 refine nD (by kernel_rfl) ?_ _;refine NoPanic.normal ?_;have Y3:Hid ((q14 w2 (w.heap.size+1) (.int .i64 l) (.int .i64 k) (.int .i64 kd) (.int .i64 me) (.int .i64 wait) (.int .u64 kids) (.int .i64 ep) (.int .i64 0) (.int .u64 0) (.int .u64 ((withC 0 me:Nat) :Int)) (.bool false) (.int .i64 k) (.int .i64 l) (.slice none 0 0)).heap[w.heap.size+1]? =some (.cells #[.int .i64 l,.int .i64 k,.int .i64 kd,.int .i64 me,.int .i64 wait,.int .u64 kids,.int .i64 ep,.int .i64 0,.int .u64 0,.int .u64 ((withC 0 me:Nat) :Int),.bool false,.int .i64 k,.int .i64 l,.slice none 0 0] 37 (0,0))):=LH (store14 Y2.out (.int .i64 l) (.int .i64 k) (.int .i64 kd) (.int .i64 me) (.int .i64 wait) (.int .u64 kids) (.int .i64 ep) (.int .i64 0) (.int .u64 0) (.int .u64 ((withC 0 me:Nat) :Int)) (.bool false) (.int .i64 k) (.int .i64 l) (.slice none 0 0));have B3:Hid (Below w.heap.size w (q14 w2 (w.heap.size+1) (.int .i64 l) (.int .i64 k) (.int .i64 kd) (.int .i64 me) (.int .i64 wait) (.int .u64 kids) (.int .i64 ep) (.int .i64 0) (.int .u64 0) (.int .u64 ((withC 0 me:Nat) :Int)) (.bool false) (.int .i64 k) (.int .i64 l) (.slice none 0 0))):=LH (store14_below B2.out (by simp) (.int .i64 l) (.int .i64 k) (.int .i64 kd) (.int .i64 me) (.int .i64 wait) (.int .u64 kids) (.int .i64 ep) (.int .i64 0) (.int .u64 0) (.int .u64 ((withC 0 me:Nat) :Int)) (.bool false) (.int .i64 k) (.int .i64 l) (.slice none 0 0));clear q3 q4 q5;rw [q14e];generalize (q14 w2 (w.heap.size+1) (.int .i64 l) (.int .i64 k) (.int .i64 kd) (.int .i64 me) (.int .i64 wait) (.int .u64 kids) (.int .i64 ep) (.int .i64 0) (.int .u64 0) (.int .u64 ((withC 0 me:Nat) :Int)) (.bool false) (.int .i64 k) (.int .i64 l) (.slice none 0 0)) =W3 at Y3 B3⊢;have c3:=bC Y3.out;have f3:=bF Y3.out;have z3:=lB Y3.out;go_wp2_with fail;exact bR (v:=.agg #[.int .i64 l,.int .i64 k,.int .i64 kd,.int .i64 me,.int .i64 wait,.int .u64 kids,.int .i64 ep,.int .i64 0,.int .u64 0,.int .u64 ((withC 0 me:Nat) :Int),.bool false,.int .i64 k,.int .i64 l,.slice none 0 0]) (by simp only [results,Tryz.results36];go_simp) rfl ⟨rfl,B3.out⟩
structure SnR (w:World) (cs:Array Value) (W:World) :Prop where
 x:W.heap[w.heap.size]? =some (.cells cs 37 (0,0))
 z:W.heap[w.heap.size+1]? =some (.cells #[.int .i64 0,.int .i64 0,.int .i64 0,.int .i64 0,.int .i64 0,.int .u64 0,.int .i64 0,.int .i64 0,.int .u64 0,.int .u64 0,.bool false,.int .i64 0,.int .i64 0,.slice none 0 0] 37 (0,0))
 b:Below w.heap.size w W
def Put31Post [Zone] (l:Nat) (s:Sen) (r:List Nd) (x c:Int) (w:World) (e:Ending) (w':World) :Prop:=
 ∃(r':List Nd) (A':Option Addr) (c':Nat),e=.returned (.tuple #[refV s A' r'.length c',.int .i64 (putErr l s r x c)])∧PutTo l s r x c r'∧SlZ w' 154 encN A' r'∧Below w.heap.size w w'
def nextS (s:Sen) :Sen:=if s.ep=1099511627776 then s else senNew s.l s.k s.kd s.p (s.ep+1)
def nextE (s:Sen) :Int:=if s.ep=1099511627776 then 21 else 0
def Next31Post (s:Sen) (A:Option Addr) (n c:Nat) (w:World) (e:Ending) (w':World) :Prop:=
 ((s.ep=1099511627776∧e=.returned (.tuple #[refV s A n c,.int .i64 21]))∨(s.ep≠1099511627776∧e=.returned (.tuple #[refV (senNew s.l s.k s.kd s.p (s.ep+1)) none 0 0,.int .i64 0])))∧Below w.heap.size w w'
def Send31Post [Zone] (l:Nat) (s:Sen) (r:List Nd) (w:World) (e:Ending) (w':World) :Prop:=
 (s.sent=true∧(∃A c,e=.returned (.tuple #[refV s A r.length c,.string ⟨#[]⟩,.int .i64 18])∧SlZ w' 154 encN A r)∧Below w.heap.size w w')∨
 (s.sent=false∧readyS s=false∧(∃A c,e=.returned (.tuple #[refV s A r.length c,.string ⟨#[]⟩,.int .i64 22])∧SlZ w' 154 encN A r)∧Below w.heap.size w w')∨
 (s.sent=false∧readyS s=true∧(∃ps r' A c,RunTo l (sumR r / s.k) r ps r'∧e=.returned (.tuple #[refV (sentS s) A r'.length c,.string ⟨(ltrT (senL l s r')).toArray⟩,.int .i64 0])∧SlZ w' 154 encN A r')∧Below w.heap.size w w')
def CntPost (ids:List Int) (s:List UInt8) (n:Int) (w:World) (e:Ending) (w':World) :Prop:=
 ∃A c,e=.returned (.tuple #[.slice A (cntF ids s n []).1.length c,.string ⟨(cntF ids s n []).2.1.toArray⟩,.int .i64 (cntF ids s n []).2.2.2])∧Own w' w.heap.size 154 encN (.slice A (cntF ids s n []).1.length c) (cntF ids s n []).1∧Below w.heap.size w w'
def FallsPost (s:List UInt8) (most:Int) (w:World) (e:Ending) (w':World) :Prop:=
 ∃A c,e=.returned (.tuple #[.slice A (fallB s most).1.length c,.int .i64 (fallB s most).2.1,.int .i64 (fallB s most).2.2])∧Own w' w.heap.size 3 encZ (.slice A (fallB s most).1.length c) (fallB s most).1∧Below w.heap.size w w'
theorem fallF_step (s:List UInt8) (m last a:Nat) (out:List Int) :fallF s (m+1) last a out=
 if (getB (s.drop a)).2.2≠0 then ([],0,(getB (s.drop a)).2.2) else if (getB (s.drop a)).1=0∨9223372036854775807 - last< (getB (s.drop a)).1 then ([],0,10) else fallF s m (last+ (getB (s.drop a)).1) (a+ (getB (s.drop a)).2.1) (out ++ [((last+ (getB (s.drop a)).1:Nat) :Int)]):=rfl
theorem fallB_at (s:List UInt8) (most:Int) :fallB s most=if (getB s).2.2≠0 then ([],0,(getB s).2.2) else if most< ((getB s).1:Int) then ([],0,13) else fallF s (getB s).1 0 (getB s).2.1 []:=rfl
theorem FallsPost.of {s:List UInt8} {most:Int} {w w':World} {A:Option Addr} {c:Nat} {R:List Int×Nat×Int} (h:R=fallB s most) (ho:Own w' w.heap.size 3 encZ (.slice A R.1.length c) R.1) (hb:Below w.heap.size w w') :
 FallsPost s most w (.returned (.tuple #[.slice A R.1.length c,.int .i64 R.2.1,.int .i64 R.2.2])) w':=by
 subst h;exact⟨A,c,rfl,ho,hb⟩
theorem FallsPost.no {s:List UInt8} {most:Int} {w w':World} {er:Int} (h:fallB s most= ([],0,er)) (hb:Below w.heap.size w w') :
 FallsPost s most w (.returned (.tuple #[.slice none 0 0,.int .i64 0,.int .i64 er])) w':=FallsPost.of (A:=none) (c:=0) h.symm (Own.nil _ _ _ _) hb
def RdPost [Zone] (s:List UInt8) (w:World) (e:Ending) (w':World) :Prop:=
 ∃A c,e=.returned (.tuple #[.agg #[.int .i64 (readW s).1.2.1,.int .i64 (readW s).1.1,.slice A (readW s).1.2.2.2.length c],.int .i64 (readW s).2])∧SlZ w' 154 encN A (readW s).1.2.2.2∧Below w.heap.size w w'
structure RdR (w:World) (W:World) :Prop where
 x:W.heap[w.heap.size]? =some (.cells #[.int .i64 0,.int .i64 0,.slice none 0 0] 35 (0,0))
 y:W.heap[w.heap.size+1]? =some (.cells #[.int .i64 0,.int .i64 0,.slice none 0 0] 35 (0,0))
 b:Below w.heap.size w W
theorem cnt_fits {l n:Nat} {ids:List Int} {s:List UInt8} (hl:1≤l∧l≤48) (hn:n≤72057594037927935) (hr:ids.Pairwise (· < ·)) (h1: ∀x∈ids,1≤x) (ha: (ids.all fun id=>isNode l id) =true) (h: (cntF ids s (n:Int) []).2.2.2=0) :
 Fits l (cntF ids s (n:Int) []).1∧sumR (cntF ids s (n:Int) []).1+ (cntF ids s (n:Int) []).2.2.1=n∧0≤(cntF ids s (n:Int) []).2.2.1∧(cntF ids s (n:Int) []).1.length=ids.length:=by
 obtain⟨cs,e1,e2,e3,e4,e5⟩:=cntF_ok ids s (n:Int) [] (by omega) h;rw [List.nil_append] at e1;rw [←e1] at e2 e3 e4;refine⟨⟨roll_of_ids e2 hr h1 e3,?_,by omega⟩,e4,e5,by have h5:=congrArg List.length e2;rwa [List.length_map] at h5⟩;intro x hx;have hm:x.1∈ids:=by rw [←e2];exact List.mem_map_of_mem hx
 have:=(isNode_lt (List.all_eq_true.1 ha x.1 hm)).2
 simpa using this
def listN (s n:Nat) :List Int:=List.map (fun i:Nat=>(i:Int)) ((List.range n).filter fun i=>hasN s i)
def listC (s:Nat) :List Int:=listN s 48
end Go.Proofs.YtandlhihcnadmaaGreat
