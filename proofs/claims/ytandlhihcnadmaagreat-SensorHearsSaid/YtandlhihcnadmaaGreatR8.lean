/-
  Texts of this proof, one behind the other: SensorOps, DigReset, Made13, Send, Alive31, Ref31, Ref31B, Ref31N, Ref24C, Ref22F, Ref24R, Ref27L.
-/
import Derived.Test.YtandlhihcnadmaaGreatR2
import Derived.Test.YtandlhihcnadmaaGreatR3
import Derived.Test.YtandlhihcnadmaaGreatR5
import Derived.Test.YtandlhihcnadmaaGreatR6
import Derived.Test.YtandlhihcnadmaaGreatR7
set_option linter.unusedVariables false
set_option linter.unusedSimpArgs false
set_option maxRecDepth 100000
set_option maxHeartbeats 16000000
namespace Go.Proofs.YtandlhihcnadmaaGreat
open Go.ChangeShapes Go.WideShapes Go.ChangeAt Go.RowKit
def readyS (s:Sen) :Bool:= !s.sent && (decide (s.heard=s.p.kids) || decide (s.p.wait≤s.ti))
def sentS (s:Sen) :Sen:={s with sent:=true}
def tickS (s:Sen) :Sen:={s with ti:=s.ti+1}
def tickedS (s:Sen) :Sen:=if s.ti<s.p.wait then tickS s else s
theorem sensor_Ready (w:World) (g dg:Nat) (s:Sen) (h:SenAt w g dg s) :Calls Tryz.prog 30 #[.pointer (some ⟨g,0,none⟩)] w fun e w'=>e=.returned (.bool (readyS s))∧Below w.heap.size w w':=by
 obtain⟨l,k,kd,⟨me,kids,wait⟩,ep,ti,heard,cover,sent⟩:=s;have cc:=bC h;have cf:=bF h;have zb:=lB h;unfold readyS;dsimp only at*;clear h
 cases sent
 ·by_cases h1:heard=kids
  ·have h1': ((heard:Int) == (kids:Int)) =true:=beq_iff_eq.2 (by omega)
   have hd:decide (heard=kids) =true:=by simpa using h1
   rw [hd];clear h1 hd
   go_enter Tryz.func30,Tryz.ntmps30
   go_upto_region 1 with fail;refine rX (by kernel_rfl) (by kernel_rfl) ?_
   repeat (go_big_quiet_step (fail))
   refine wpQuiet_nil ?_;intro w1 hb1;replace hb1:=bX hb1;have B1:Below w.heap.size w w1:=Below.then_ bE hb1;have s1:=B1.size;go_wp2_with fail;go_ret;exact⟨rfl,B1⟩
  ·have h1': ((heard:Int) == (kids:Int)) =false:=by simp;omega
   have hd:decide (heard=kids) =false:=by simpa using h1
   rw [hd];clear h1 hd
   go_enter Tryz.func30,Tryz.ntmps30
   go_upto_region 1 with fail;refine rX (by kernel_rfl) (by kernel_rfl) ?_
   repeat (go_big_quiet_step (fail))
   refine wpQuiet_nil ?_;intro w1 hb1;replace hb1:=bX hb1;have B1:Below w.heap.size w w1:=Below.then_ bE hb1;have s1:=B1.size;go_wp2_with fail;go_ret;exact⟨rfl,B1⟩
 ·go_enter Tryz.func30,Tryz.ntmps30
  go_upto_region 1 with fail;refine rX (by kernel_rfl) (by kernel_rfl) ?_
  repeat (go_big_quiet_step (fail))
  refine wpQuiet_nil ?_;intro w1 hb1;replace hb1:=bX hb1;have B1:Below w.heap.size w w1:=Below.then_ bE hb1;have s1:=B1.size;go_wp2_with fail;go_ret;exact⟨rfl,B1⟩
theorem SenAt.tick {w:World} {g dg:Nat} {s:Sen} (h:SenAt w g dg s) :SenAt (w.setCell ⟨g,7,none⟩ (.int .i64 (s.ti+1))) g dg (tickS s):=zH (i:=7) h _
theorem SenAt.toSent {w:World} {g dg:Nat} {s:Sen} (h:SenAt w g dg s) :SenAt (w.setCell ⟨g,10,none⟩ (.bool true)) g dg (sentS s):=zH (i:=10) h _
theorem SensAt.set {w:World} {g K l o dg:Nat} {s s':Sen} {r:List Nd} {F F0:Nat→Prop} {u:Value} (hF:F=footP g F0) (h1:SenAt (w.setCell ⟨g,o,none⟩ u) g dg s') (h2:SenAt w g dg s) (h3:s'.l=l) (h4:s'.kd=K) (h5:DigAt w dg K l s'.k r F0) (h6: ¬F0 g) :SensAt (w.setCell ⟨g,o,none⟩ u) g K l s' r F:=
 ⟨dg,F0,hF,h1,h3,h4,h5.keep fun b hb=>Below.heap_setCell _ _ _ _ (by rintro rfl;exact h6 hb),h6⟩
theorem sensor_Tick (w:World) (g K l:Nat) (s:Sen) (r:List Nd) (F:Nat→Prop) (h:SensAt w g K l s r F) (ht:s.ti≤9223372036854775806) (ht0:0≤s.ti) :Calls Tryz.prog 33 #[.pointer (some ⟨g,0,none⟩)] w fun e w'=>e=.returned (.tuple #[])∧SensTo w g K l (tickedS s) r F w':=by
 have HS:=LH h;obtain⟨dg,F0,hF,h1,h2,h3,h4,h5⟩:=h;have hw:wrap64 (s.ti+1) =s.ti+1:=by unfold wrap64;omega
 have cc:=bC h1;have cf:=bF h1;have zb:=lB h1;have H1:=LH h1
 have HX:Hid (∀W,Below w.heap.size w W→SensTo w g K l (tickS s) r F (W.setCell ⟨g,7,none⟩ (.int .i64 (s.ti+1)))):=LH fun W hb=>
  ⟨F,SensAt.set (s':=tickS s) hF (h1.below hb).tick (h1.below hb) h2 h3 (h4.below hb) h5,(Turn.of_below hb).setCell (.inl HS.out.own) _,Grow.refl⟩
 have HY:Hid (∀W,Below w.heap.size w W→SensTo w g K l s r F W):=LH fun W hb=>.below HS.out hb;clear h1 h2 h3 h4 h5 HS hF;unfold tickedS;by_cases hlt:s.ti<s.p.wait
 ·have hd:decide (s.ti<s.p.wait) =true:=by simpa using hlt
  rw [if_pos hlt];generalize tickS s=s' at HX⊢
  go_enter Tryz.func33,Tryz.ntmps33
  go_upto_region 0 with fail;refine rX (by kernel_rfl) (by kernel_rfl) ?_
  repeat (go_big_quiet_step (fail))
  refine wpQuiet_nil ?_;intro w1 hb1;replace hb1:=bX hb1;have B1:Below w.heap.size w w1:=Below.then_ bE hb1;have s1:=B1.size;have z1_0:g<w1.heap.size:=by have:=hb1.size;(try simp at this);omega
  have y1_0:g≤w1.heap.size:=Nat.le_of_lt z1_0;have c1_0:=czB hb1 (g);have f1_0:=fzB hb1 (g);have cc1:=bC (H1.out.below hb1);have B1':=LH B1;clear c1_0 cc;go_wp2_with fail
  go_end0
  exact⟨rfl,HX.out _ B1'.out⟩
 ·have hd:decide (s.ti<s.p.wait) =false:=by simpa using hlt
  rw [if_neg hlt]
  go_enter Tryz.func33,Tryz.ntmps33
  go_upto_region 0 with fail;refine rX (by kernel_rfl) (by kernel_rfl) ?_
  repeat (go_big_quiet_step (fail))
  refine wpQuiet_nil ?_;intro w1 hb1;replace hb1:=bX hb1;have B1:Below w.heap.size w w1:=Below.then_ bE hb1;have s1:=B1.size;have z1_0:g<w1.heap.size:=by have:=hb1.size;(try simp at this);omega
  have y1_0:g≤w1.heap.size:=Nat.le_of_lt z1_0;have c1_0:=czB hb1 (g);have f1_0:=fzB hb1 (g);have B1':=LH B1;go_wp2_with fail
  go_end0
  exact⟨rfl,HY.out _ B1'.out⟩
def DigestPost (K l:Nat) (k:Int) (r:List Nd) (w:World) (e:Ending) (w':World) :Prop:=
 ∃g' F',e=.returned (.pointer (some ⟨g',0,none⟩))∧DigAt w' g' K l k r F'∧(∀b,F' b→w.heap.size≤b)∧Below w.heap.size w w'
theorem sensor_Digest (w:World) (g K l:Nat) (s:Sen) (r:List Nd) (F:Nat→Prop) (h:SensAt w g K l s r F) :Calls Tryz.prog 20 #[.pointer (some ⟨g,0,none⟩)] w (DigestPost K l s.k r w):=by
 obtain⟨dg,F0,hF,h1,h2,h3,h4,h5⟩:=h;have cc:=bC h1;have cf:=bF h1;have zb:=lB h1;have HC:=LH (digest_Clone w dg K l s.k r F0 h4);unfold DigestPost;clear h1 h2 h3 h4 h5 hF
 go_enter Tryz.func20,Tryz.ntmps20
 go_wp2_with fail;refine HC.out.mono ?_;rintro e w1 ⟨g',F',rfl,hd,hF1,hb1⟩;have HD:=LH hd;have HF:=LH hF1;clear hd hF1;go_wp2_with fail;go_ret;exact⟨g',F',rfl,HD.out,HF.out,hb1⟩
def putErr (l:Nat) (s:Sen) (r:List Nd) (x c:Int) :Int:=if s.sent=true then 18 else insErr l r x c
def PutTo (l:Nat) (s:Sen) (r:List Nd) (x c:Int) (r':List Nd) :Prop:=(s.sent=true∧r'=r)∨(s.sent=false∧InsTo l s.k r x c r')
theorem SensAt.dig {w w':World} {g K l dg:Nat} {s:Sen} {r:List Nd} {F F0:Nat→Prop} (hF:F=footP g F0) (h1:SenAt w g dg s) (h2:s.l=l) (h3:s.kd=K) (h5: ¬F0 g) (h:DigTo w dg K l s.k r F0 w') :SensTo w g K l s r F w':=by
 obtain⟨F',d1,d2,d3⟩:=h;subst hF;have hg: ¬F' g:=fun hf=>(d3 g hf).elim h5 fun h=>by have:=lB h1;omega
 refine⟨footP g F',⟨dg,F',rfl,d2.keep h1 h5,h2,h3,d1,hg⟩,d2.mono fun b _ hb=>.inr hb,?_⟩;rintro b (rfl|hb)
 ·exact .inl (.inl rfl)
 ·exact(d3 b hb).imp .inr id
def SPutPost (g K l:Nat) (s:Sen) (r:List Nd) (F:Nat→Prop) (x c:Int) (w:World) (e:Ending) (w':World) :Prop:=
 ∃r',e=.returned (.int .i64 (putErr l s r x c))∧PutTo l s r x c r'∧SensTo w g K l s r' F w'
theorem SPutPost.of {g K l:Nat} {s:Sen} {r r':List Nd} {F:Nat→Prop} {x c:Int} {w w':World} (h:PutTo l s r x c r') (h2:SensTo w g K l s r' F w') :SPutPost g K l s r F x c w (.returned (.int .i64 (putErr l s r x c))) w':=⟨r',rfl,h,h2⟩
theorem sensor_Put (w:World) (g K l:Nat) (s:Sen) (r:List Nd) (F:Nat→Prop) (h:SensAt w g K l s r F) (hn:r.length≤67108864) (x c:Int) :
 Calls Tryz.prog 31 #[.pointer (some ⟨g,0,none⟩),.int .i64 x,.int .i64 c] w (SPutPost g K l s r F x c w):=by
 have HS:=LH h;obtain⟨dg,F0,hF,h1,h2,h3,h4,h5⟩:=h;have cc:=bC h1;have cf:=bF h1;have zb:=lB h1;have HI:=LH (digest_Insert w dg K l s.k r F0 h4 hn x c);have HX:Hid (∀W r',DigTo w dg K l s.k r' F0 W→SensTo w g K l s r' F W):=LH fun W r' hd=>SensAt.dig hF h1 h2 h3 h5 hd;have HP:Hid (∀W r',PutTo l s r x c r'→SensTo w g K l s r' F W→SPutPost g K l s r F x c w (.returned (.int .i64 (putErr l s r x c))) W):=LH fun W r' h1 h2=>.of h1 h2;have HP0:Hid (s.sent=true→putErr l s r x c=18∧PutTo l s r x c r):=LH fun h=>⟨by unfold putErr;rw [if_pos h],.inl ⟨h,rfl⟩⟩;have HP1:Hid (s.sent=false→putErr l s r x c=insErr l r x c∧∀r',InsTo l s.k r x c r'→PutTo l s r x c r'):=LH fun h=>⟨by unfold putErr;rw [if_neg (by simp [h])],fun r' h2=>.inr ⟨h,h2⟩⟩;generalize insErr l r x c=n at HI HP1;generalize putErr l s r x c=n' at HP HP0 HP1;clear h1 h2 h3 h4 h5 hF;obtain⟨b,hb⟩ : ∃b,b=s.sent:=⟨_,rfl⟩;rw [←hb] at cc HP0 HP1;clear hb
 cases b
 ·go_enter Tryz.func31,Tryz.ntmps31
  go_wp2_with fail;refine HI.out.mono ?_;rintro e w1 ⟨r',rfl,hi,hd⟩;have HD:=LH (HX.out _ _ hd);have HI2:=LH hi;clear hd hi;go_wp2_with fail;have HF:=LH (HP.out _ r' ((HP1.out trivial).2 r' HI2.out) HD.out);rw [(HP1.out trivial).1] at HF;exact bR (v:=.int .i64 n) (by simp only [results,Tryz.results31];go_simp) rfl HF.out
 ·go_enter Tryz.func31,Tryz.ntmps31
  go_wp2_with fail;have HF:=LH (HP.out _ r (HP0.out trivial).2 (.below HS.out (w':=w) bE));rw [(HP0.out trivial).1] at HF;exact bR (v:=.int .i64 18) (by simp only [results,Tryz.results31];go_simp) rfl HF.out

theorem DigTo.from {w W w':World} {g K l:Nat} {k:Int} {s:List Nd} {F:Nat→Prop} (hB:Below w.heap.size w W) (h:DigTo W g K l k s F w') :DigTo w g K l k s F w':=by
 obtain⟨F',h1,h2,h3⟩:=h;exact⟨F',h1,(Turn.of_below hB).trans h2 Grow.refl,fun b hb=>(h3 b hb).imp id fun h=>Nat.le_trans hB.size h⟩
def DoPost (g K l:Nat) (k:Int) (r:List Nd) (o:Op3) (F:Nat→Prop) (w:World) (e:Ending) (w':World) :Prop:=
 ∃(r':List Nd) (n:Int),e=.returned (.int .i64 n)∧DoTo l k r o r' n∧DigTo w g K l k r' F w'
theorem SlT.turn {α:Type} {size:Nat} {w w':World} {e:TypeId} {E:Enc α size} {A:Option Addr} {l:List α} {F:Nat→Prop} (h:SlT w e E A l) (ht:Turn F w w') (hF: ∀b,TypeAt w b e→¬F b) :SlT w' e E A l:=by
 rcases h with h| ⟨b,off,hA,hT,hc⟩
 ·exact .inl h
 ·have hk:=ht.block b hT.lt (hF b hT)
  refine .inr ⟨b,off,hA,?_,fun i x hi j u hj=>(World.cell?_of_block hk).trans (hc i x hi j u hj)⟩;obtain⟨cs,fr,hh⟩:=hT;exact⟨cs,fr,hk.trans hh⟩
structure MadeS (w:World) (pb g K l:Nat) (k:Int) (r m:List Nd) (F:Nat→Prop) (A:Option Addr) (cap:Nat) (W:World) :Prop where
 d:DigAt W g K l k r F
 fw: ∀b,F b→w.heap.size≤b
 b:W.heap[pb]? =some (.cells #[.int .i64 l,.slice A m.length cap] 58 (0,0))
 pw:w.heap.size+1<pb
 z:W.heap[w.heap.size+1]? =some (.cells #[.int .i64 0,.slice none 0 0] 58 (0,0))
 s:SlT W 142 encN A m
 blw:Below w.heap.size w W
section
variable {w:World} {pb g K l:Nat} {k:Int} {r r' m m':List Nd} {F F':Nat→Prop} {A A':Option Addr} {cap cap':Nat} {W W':World}
end
def CallsPost (K l:Nat) (k:Int) (n:Nat) (w:World) (e:Ending) (w':World) :Prop:=
 ∃(g:Nat) (F:Nat→Prop) (r m:List Nd) (A:Option Addr) (cap:Nat),e=.returned (.tuple #[.pointer (some ⟨g,0,none⟩),bagV l A m.length cap])∧DigAt w' g K l k r F∧(∀b,F b→w.heap.size≤b)∧SlT w' 142 encN A m∧Held l k r m∧r.length≤n∧m.length≤n∧(r.length:Int)≤8*k∧Below w.heap.size w w'
structure SenOk (s:Sen) :Prop where
 p:rightS s.p=true
 e0:0≤s.ep
 e1:s.ep≤1099511627776
 t0:0≤s.ti
 t1:s.ti≤s.p.wait
 c:rightC s.cover=true
 me:hasC s.cover s.p.me=true
 h:rightC s.heard=true
theorem SenOk.wait {s:Sen} (h:SenOk s) :s.p.wait≤1048576∧1≤s.p.wait∧isCrew s.p.me=true∧rightC s.p.kids=true∧hasC s.p.kids s.p.me=false:=by
 have:=h.p;simp only [rightS,Bool.and_eq_true,decide_eq_true_eq,Bool.not_eq_true'] at this;exact⟨this.2,this.1.2,this.1.1.1.1,this.1.1.1.2,this.1.1.2⟩
theorem SenOk.kids {s:Sen} (h:SenOk s) :s.p.kids<2^64:=by
 have:=h.wait.2.2.2.1;simp only [rightC,decide_eq_true_eq] at this;omega
theorem SenOk.tick {s:Sen} (h:SenOk s) :SenOk (tickedS s):=by
 unfold tickedS
 split
 ·rename_i h1
  have:=h.t0;exact⟨h.p,h.e0,h.e1,by show 0≤s.ti+1;omega,by show s.ti+1≤s.p.wait;omega,h.c,h.me,h.h⟩
 ·exact h
theorem SenOk.toSent {s:Sen} (h:SenOk s) :SenOk (sentS s):=⟨h.p,h.e0,h.e1,h.t0,h.t1,h.c,h.me,h.h⟩
theorem withC_me {i:Int} (h:isCrew i=true) :rightC (withC 0 i) =true∧hasC (withC 0 i) i=true:=by
 obtain⟨n,rfl,hn⟩:=isCrew_nat h;have hp:=pow_crew hn;have h0:hasN 0 n=false:=by unfold hasN;simp
 have e:withC 0 (n:Int) =2^n:=by
  unfold withC;rw [if_pos h,Int.toNat_natCast,if_neg (by simp [h0])];simp
 rw [e];refine⟨by unfold rightC;simp only [decide_eq_true_eq];omega,?_⟩;unfold hasC hasN;rw [h,Int.toNat_natCast,Nat.div_self hp.2]
 rfl
theorem SenOk.new {l k K:Int} {p:Plc} {ep:Int} (h:newS l k K p ep=true) :SenOk (senNew l k K p ep):=by
 simp only [newS,Bool.and_eq_true,decide_eq_true_eq] at h;have hp:=h.1.1.2;simp only [rightS,Bool.and_eq_true,decide_eq_true_eq,Bool.not_eq_true'] at hp;have hm:=withC_me hp.1.1.1.1;exact⟨h.1.1.2,h.1.2,h.2,Int.le_refl _,by show (0:Int)≤p.wait;omega,hm.1,hm.2,rfl⟩
def senL (l:Nat) (s:Sen) (r:List Nd) :Ltr:=⟨s.ep,s.p.me,s.cover,wireT l s.k r⟩
theorem wireT_len {l:Nat} {k:Int} {r:List Nd} (hl:1≤l∧l≤48) (hf:Fits l r) (hk:1≤k) (hk2:k≤1048576) (hn:r.length≤50000) : (wireT l k r).length≤36+18*r.length:=by
 have h:=WireF.of hl hf hk hk2 (by omega);have h1:=h.l1;have h2:=h.l2;have h3:=h.l3;unfold wireT;rw [sealT_len];simp only [List.length_append,List.length_cons,List.length_nil];omega
theorem senL_right {l:Nat} {s:Sen} {r:List Nd} (ho:SenOk s) (hl:1≤l∧l≤48) (hf:Fits l r) (hk:1≤s.k) (hk2:s.k≤1048576) (hn:r.length≤50000) :rightL (senL l s r) =true:=by
 have h1:=wireT_len hl hf hk hk2 hn;have h2:=ho.e0;have h3:=ho.me;have h4:=ho.c;unfold rightL senL;simp only [Bool.and_eq_true,decide_eq_true_eq];exact⟨⟨⟨h2,h3⟩,h4⟩,by omega⟩
def SendPost (g K l:Nat) (s:Sen) (r:List Nd) (F:Nat→Prop) (w:World) (e:Ending) (w':World) :Prop:=
 if s.sent=true then e=.returned (.tuple #[.string ⟨#[]⟩,.int .i64 18])∧Below w.heap.size w w'
 else if readyS s=false then e=.returned (.tuple #[.string ⟨#[]⟩,.int .i64 22])∧Below w.heap.size w w'
 else ∃ps r',RunTo l (sumR r / s.k) r ps r'∧e=.returned (.tuple #[.string ⟨(ltrT (senL l s r')).toArray⟩,.int .i64 0])∧SensTo w g K l (sentS s) r' F w'
theorem sensor_Send (w:World) (g K l:Nat) (s:Sen) (r:List Nd) (F:Nat→Prop) (h:SensAt w g K l s r F) (ho:SenOk s) (hn:r.length≤50000) :
 Calls Tryz.prog 32 #[.pointer (some ⟨g,0,none⟩)] w (SendPost g K l s r F w):=by
 have HOk:=LH ho;have HS:=LH h;obtain⟨dg,F0,hF,h1,h2,h3,h4,h5⟩:=h;have HR:=LH (sensor_Ready w g dg s h1);have HI:=LH h1;have HGD:=LH h4;have HF0:=LH h5;have HX:Hid (∀W r',DigTo w dg K l s.k r' F0 W→SensTo w g K l s r' F W):=LH fun W r' hd=>SensAt.dig hF h1 h2 h3 h5 hd;have HL:=LH h2;have HK:=LH h3;have HFe:=LH hF;have cc:=bC h1;have cf:=bF h1;have zb:=lB h1;have hll:=h4.l_le;have hfit:=h4.fits;have hk:1≤s.k∧s.k≤1048576:=by obtain⟨p,F0,_,_,_,_,h1,h2⟩:=h4.parts;exact⟨h1,h2⟩
 clear h1 h2 h3 h4 h5 hF ho
 have HP:Hid (∀(e:Ending) (W:World),(s.sent=true→e=.returned (.tuple #[.string ⟨#[]⟩,.int .i64 18])∧Below w.heap.size w W)→(s.sent=false→readyS s=false→e=.returned (.tuple #[.string ⟨#[]⟩,.int .i64 22])∧Below w.heap.size w W)→
  (s.sent=false→readyS s=true→∃ps r',RunTo l (sumR r / s.k) r ps r'∧e=.returned (.tuple #[.string ⟨(ltrT (senL l s r')).toArray⟩,.int .i64 0])∧SensTo w g K l (sentS s) r' F W)→SendPost g K l s r F w e W):=LH fun e W a b c=>by
  unfold SendPost;by_cases q1:s.sent=true
  ·rw [if_pos q1];exact a q1
  ·rw [if_neg q1]
   have q1':s.sent=false:=by simpa using q1
   by_cases q2:readyS s=false
   ·rw [if_pos q2];exact b q1' q2
   ·rw [if_neg q2];exact c q1' (by simpa using q2)
 have HNS:Hid (readyS s=true→s.sent=false):=LH fun h=>by
  unfold readyS at h
  cases hs:s.sent
  ·rfl
  ·rw [hs] at h;simp at h
 obtain⟨b,hb⟩ : ∃b,b=s.sent:=⟨_,rfl⟩;rw [←hb] at cc HP;have hbh:=LH hb;clear hb
 cases b
 ·obtain⟨y,hy⟩ : ∃y,y=readyS s:=⟨_,rfl⟩
  rw [←hy] at HR HP;clear hy
  go_enter Tryz.func32,Tryz.ntmps32
  go_wp2_with fail;refine HR.out.mono ?_;rintro e w1 ⟨rfl,hb1⟩;have B1:=LH hb1;clear hb1
  cases y
  ·go_wp2_with fail
   exact bR (v:=.tuple #[.string ⟨#[]⟩,.int .i64 22]) (by simp only [results,Tryz.results32];go_simp) rfl (HP.out _ _ (fun h=>by simp at h) (fun _ _=>⟨rfl,B1.out⟩) (fun _ h=>by simp at h))
  ·have I1:=LH (HI.out.below B1.out)
   have c1:=bC I1.out;have f1:=bF I1.out;have z1:=lB I1.out;clear cc cf zb;go_wp2_with fail;refine(digest_Compress w1 dg K l s.k r F0 (HGD.out.below B1.out) (by omega)).mono ?_;rintro e w2 ⟨ps,r',rfl,hrun,hto⟩;have hto':=DigTo.from B1.out hto;have S2:=LH (HX.out w2 r' hto');have HRun:=LH hrun;have hfit2:=hrun.folded.fits hfit;have hlen2:=hrun.folded.len hfit;obtain⟨F1,hd2,ht2,hg2⟩:=hto';have I2:Hid (SenAt w2 g dg s):=LH (ht2.keep HI.out HF0.out);have D2:=LH hd2;have HRt:=LH (senL_right (r:=r') HOk.out hll hfit2 hk.1 hk.2 (by omega));have hle:=HOk.out.e1;have hle0:=HOk.out.e0
   have hme:i64 s.p.me:=by
    obtain⟨n,hn,h48⟩:=isCrew_nat HOk.out.wait.2.2.1;rw [hn];constructor <;> omega
   have HEn:=LH (fun W=>letter_Encode W (senL l s r') HRt.out (by show i64 s.ep;constructor <;> omega) hme);have HWi:=LH (wire_Encode w2 dg K l s.k r' F1 hd2 (by omega))
   have HPf:Hid (∀W,Below w2.heap.size w2 W→SendPost g K l s r F w (.returned (.tuple #[.string ⟨(ltrT (senL l s r')).toArray⟩,.int .i64 0])) (W.setCell ⟨g,10,none⟩ (.bool true))):=LH fun W hb=>by
    refine HP.out _ _ (fun h=>by simp at h) (fun _ h=>by simp at h) fun _ _=>⟨ps,r',HRun.out,rfl,?_⟩;have hk:=S2.out.then_ hb;obtain⟨F',k1,k2,k3⟩:=hk;obtain⟨dg',F0',e1,e2,e3,e4,e5,e6⟩:=k1;exact⟨F',SensAt.set (s':=sentS s) e1 e2.toSent e2 e3 e4 e5 e6,k2.setCell (.inl HS.out.own) _,k3⟩
   have HEn2:Hid (∀W,Calls Tryz.prog 84 #[.agg #[.int .i64 s.ep,.int .i64 s.p.me,.int .u64 s.cover,.string ⟨(wireT l s.k r').toArray⟩]] W fun e w'=>e=.returned (.tuple #[.string ⟨(ltrT (senL l s r')).toArray⟩,.int .i64 0])∧Below W.heap.size W w'):=HEn;generalize ltrT (senL l s r') =G at HPf HEn2;generalize wireT l s.k r'=T at HWi HEn2;have c2:=bC I2.out;have f2:=bF I2.out;have z2:=lB I2.out;clear hrun hto ht2 hg2 hd2 c1 f1 z1 I1 HR HX HP S2 HRt HEn hfit2 hlen2;go_wp2_with fail;refine HWi.out.mono ?_;rintro e w3 ⟨rfl,hb3⟩;have I3:=LH (I2.out.below hb3);have B3:=LH hb3;clear hb3 c2 f2 z2;go_upto_region 9 with fail;have I3d:Hid (SenAt w3.drew g dg s):=LH I3.out;have B3d:=LH B3.out.drew;refine wp_region_noPanic ?_;refine wp_region_N (fun w'=>SenAt w' g dg s) [] (by kernel_rfl) (I3.out) (fun hHeld=> ?_);generalize w3.drew=Wd at I3d B3d hHeld⊢;refine nP 0 (Value.pointer (some ⟨g,0,none⟩)) (h:= ?_)
   (try simp only [zA,zB,zC,Act.put,zD,zE,zF])
   refine nP 1 (Value.pointer (some ⟨g,0,none⟩)) (h:= ?_)
   (try simp only [zA,zB,zC,Act.put,zD,zE,zF])
   refine nP 4 (Value.pointer (some ⟨g,0,none⟩)) (h:= ?_)
   (try simp only [zA,zB,zC,Act.put,zD,zE,zF])
   refine nP 5 (Value.pointer (some ⟨g,0,none⟩)) (h:= ?_)
   (try simp only [zA,zB,zC,Act.put,zD,zE,zF])
   refine nP 9 (Value.pointer (some ⟨g,0,none⟩)) (h:= ?_)
   (try simp only [zA,zB,zC,Act.put,zD,zE,zF])
   refine nP 10 (Value.pointer (some ⟨g,0,none⟩)) (h:= ?_)
   (try simp only [zA,zB,zC,Act.put,zD,zE,zF])
   refine nP 2 (Value.pointer (some ⟨g,6,none⟩)) (h:= ?_)
   (try simp only [zA,zB,zC,Act.put,zD,zE,zF])
   refine nP 6 (Value.pointer (some ⟨g,3,none⟩)) (h:= ?_)
   (try simp only [zA,zB,zC,Act.put,zD,zE,zF])
   refine nP 7 (Value.pointer (some ⟨g,3,none⟩)) (h:= ?_)
   (try simp only [zA,zB,zC,Act.put,zD,zE,zF])
   refine nP 11 (Value.pointer (some ⟨g,9,none⟩)) (h:= ?_)
   (try simp only [zA,zB,zC,Act.put,zD,zE,zF])
   refine nT 3 (Value.int .i64 s.ep) (y:=Or.inl ⟨by rfl,fun W hW=>by have q1:=bC hW;have q2:=lB hW;go_simp⟩) (s:=I3d.out) (h:= ?_)
   (try simp only [zA,zB,zC,Act.put,zD,zE,zF])
   refine nT 8 (Value.int .i64 s.p.me) (y:=Or.inl ⟨by rfl,fun W hW=>by have q1:=bC hW;have q2:=lB hW;go_simp⟩) (s:=I3d.out) (h:= ?_)
   (try simp only [zA,zB,zC,Act.put,zD,zE,zF])
   refine nT 12 (Value.int .u64 s.cover) (y:=Or.inl ⟨by rfl,fun W hW=>by have q1:=bC hW;have q2:=lB hW;go_simp⟩) (s:=I3d.out) (h:= ?_)
   (try simp only [zA,zB,zC,Act.put,zD,zE,zF])
   refine nP 13 (Value.string ⟨T.toArray⟩) (h:= ?_)
   (try simp only [zA,zB,zC,Act.put,zD,zE,zF])
   refine nP 14 (Value.agg #[.int .i64 s.ep,.int .i64 s.p.me,.int .u64 s.cover,.string ⟨T.toArray⟩]) (h:= ?_)
   (try simp only [zA,zB,zC,Act.put,zD,zE,zF])
   refine nO (i:=15) (by kernel_rfl) rfl (fun K hK=> ?_);go_simp;refine(HEn2.out _).mono ?_;rintro e w4 ⟨rfl,hb4⟩;have I4:=LH (I3d.out.below hb4);have B4:=LH (Below.then_ B3d.out hb4);clear hb4;refine hK.out _ _ (fun _ _=>I4.out) ?_;clear hK K
   (try simp only [zA,zB,zC,Act.put,zD,zE,zF])
   refine nP 16 (Value.tuple #[.string ⟨G.toArray⟩,.int .i64 0]) (h:= ?_)
   (try simp only [zA,zB,zC,Act.put,zD,zE,zF])
   refine nP 17 (Value.string ⟨G.toArray⟩) (h:= ?_)
   (try simp only [zA,zB,zC,Act.put,zD,zE,zF])
   refine nP 18 (Value.int .i64 0) (h:= ?_)
   (try simp only [zA,zB,zC,Act.put,zD,zE,zF])
   refine nP 19 (Value.string ⟨G.toArray⟩) (h:= ?_)
   (try simp only [zA,zB,zC,Act.put,zD,zE,zF])
   refine nO (i:=20) (by kernel_rfl) rfl (fun K hK=> ?_);go_simp;refine hK.out _ _ (fun _ _=>I4.out) ?_;clear hK K
   (try simp only [zA,zB,zC,Act.put,zD,zE,zF])
   refine nD (by kernel_rfl) ?_ _;refine NoPanic.normal ?_;have c4:=bC I4.out;have f4:=bF I4.out;have z4:=lB I4.out;clear I3 B3 I2;go_wp2_with fail;exact bR (v:=.tuple #[.string ⟨G.toArray⟩,.int .i64 0]) (by simp only [results,Tryz.results32];go_simp) rfl (HPf.out _ B4.out)
 ·go_enter Tryz.func32,Tryz.ntmps32
  go_wp2_with fail;exact bR (v:=.tuple #[.string ⟨#[]⟩,.int .i64 18]) (by simp only [results,Tryz.results32];go_simp) rfl (HP.out _ _ (fun _=>⟨rfl,bE⟩) (fun h=>by simp at h) (fun h=>by simp at h))
def SensIn (w:World) (g K l:Nat) (s:Sen) (r:List Nd) (W:World) :Prop:=∃F,SensAt W g K l s r F∧(∀b,F b→w.heap.size≤b)∧Below w.heap.size w W
section
variable {w W W':World} {g K l:Nat} {s s':Sen} {r r':List Nd}
theorem SensIn.below (h:SensIn w g K l s r W) (hb:Below W.heap.size W W') :SensIn w g K l s r W':=by
 obtain⟨F,h1,h2,h3⟩:=h;exact⟨F,h1.below hb,h2,h3.trans (hb.mono h3.size)⟩
theorem SensIn.to {F:Nat→Prop} (h2: ∀b,F b→w.heap.size≤b) (h3:Below w.heap.size w W) (h:SensTo W g K l s r F W') :SensIn w g K l s r W':=by
 obtain⟨F',k1,k2,k3⟩:=h;exact⟨F',k1,fun b hb=>(k3 b hb).elim (h2 b) fun h=>Nat.le_trans h3.size h,h3.trans (k2.below h2 h3.size)⟩
theorem SensIn.le (h:SensIn w g K l s r W) :Below w.heap.size w W:=by
 obtain⟨F,_,_,h3⟩:=h;exact h3
theorem SensIn.fits (h:SensIn w g K l s r W) :Fits l r:=by
 obtain⟨F,⟨dg,F0,_,_,_,_,h,_⟩,_⟩:=h;exact h.fits
theorem SensIn.at_ (h:SensIn w g K l s r W) : ∃dg,SenAt W g dg s:=by
 obtain⟨F,⟨dg,F0,_,h,_⟩,_⟩:=h;exact⟨dg,h⟩
theorem SensIn.put (h:SensIn w g K l s r W) (hn:r.length≤67108864) (x c:Int) :Calls Tryz.prog 31 #[.pointer (some ⟨g,0,none⟩),.int .i64 x,.int .i64 c] W fun e W'=>∃r',e=.returned (.int .i64 (putErr l s r x c))∧PutTo l s r x c r'∧SensIn w g K l s r' W':=by
 obtain⟨F,h1,h2,h3⟩:=h;refine(sensor_Put W g K l s r F h1 hn x c).mono ?_;rintro e W' ⟨r',he,hp,ht⟩;exact⟨r',he,hp,SensIn.to h2 h3 ht⟩
theorem SensIn.tick (h:SensIn w g K l s r W) (ht:s.ti≤9223372036854775806) (ht0:0≤s.ti) :Calls Tryz.prog 33 #[.pointer (some ⟨g,0,none⟩)] W fun e W'=>e=.returned (.tuple #[])∧SensIn w g K l (tickedS s) r W':=by
 obtain⟨F,h1,h2,h3⟩:=h;refine(sensor_Tick W g K l s r F h1 ht ht0).mono ?_;rintro e W' ⟨he,ht⟩;exact⟨he,SensIn.to h2 h3 ht⟩
def SendIn (w:World) (g K l:Nat) (s:Sen) (r:List Nd) (e:Ending) (W':World) :Prop:=
 if s.sent=true then e=.returned (.tuple #[.string ⟨#[]⟩,.int .i64 18])∧SensIn w g K l s r W'
 else if readyS s=false then e=.returned (.tuple #[.string ⟨#[]⟩,.int .i64 22])∧SensIn w g K l s r W'
 else ∃ps r',RunTo l (sumR r / s.k) r ps r'∧e=.returned (.tuple #[.string ⟨(ltrT (senL l s r')).toArray⟩,.int .i64 0])∧SensIn w g K l (sentS s) r' W'
theorem SensIn.send (h:SensIn w g K l s r W) (ho:SenOk s) (hn:r.length≤50000) :Calls Tryz.prog 32 #[.pointer (some ⟨g,0,none⟩)] W (SendIn w g K l s r):=by
 have h0:=h;obtain⟨F,h1,h2,h3⟩:=h;refine(sensor_Send W g K l s r F h1 ho hn).mono ?_;intro e W' hp;unfold SendPost at hp;unfold SendIn
 split
 ·rename_i q;rw [if_pos q] at hp;exact⟨hp.1,h0.below hp.2⟩
 ·rename_i q
  rw [if_neg q] at hp
  split
  ·rename_i q2;rw [if_pos q2] at hp;exact⟨hp.1,h0.below hp.2⟩
  ·rename_i q2
   rw [if_neg q2] at hp;obtain⟨ps,r',k1,k2,k3⟩:=hp;exact⟨ps,r',k1,k2,SensIn.to h2 h3 k3⟩
theorem SensIn.ready (h:SensIn w g K l s r W) :Calls Tryz.prog 30 #[.pointer (some ⟨g,0,none⟩)] W fun e W'=>e=.returned (.bool (readyS s))∧Below W.heap.size W W':=by
 obtain⟨dg,h1⟩:=h.at_;exact sensor_Ready W g dg s h1
theorem SensIn.sent (h:SensIn w g K l s r W) :Calls Tryz.prog 34 #[.pointer (some ⟨g,0,none⟩)] W fun e W'=>e=.returned (.bool s.sent)∧Below W.heap.size W W':=by
 obtain⟨dg,h1⟩:=h.at_;exact sensor_Sent W g dg s h1
end
def NewIn (w:World) (K l:Nat) (s:Sen) (e:Ending) (W':World) :Prop:=∃g,e=.returned (.tuple #[.pointer (some ⟨g,0,none⟩),.int .i64 0])∧SensIn w g K l s [] W'
theorem SensIn.new (w:World) (l K:Nat) (k:Int) (p:Plc) (ep:Int) (hk:p.kids<2^64) (h:newS l k K p ep=true) :Calls Tryz.prog 29 #[confV l k K,plcV p,.int .i64 ep] w (NewIn w K l (senNew l k K p ep)):=by
 refine(sensor_New w l K k p ep hk h).mono ?_;rintro e W' ⟨g,F,he,h1,h2,h3⟩;exact⟨g,he,F,h1,h2,h3⟩
theorem InsTo.len {l:Nat} {k:Int} {r r':List Nd} {x c:Int} (h:InsTo l k r x c r') (hf:Fits l r) :r'.length≤r.length+1:=by
 rcases h with ⟨_,rfl⟩ | ⟨_,s,h,rfl⟩
 ·omega
 ·have:=(h.same hf).2.2
  have:=addR_len s (2^l+x) c;omega
theorem PutTo.len {l:Nat} {s:Sen} {r r':List Nd} {x c:Int} (h:PutTo l s r x c r') (hf:Fits l r) :r'.length≤r.length+1:=by
 rcases h with ⟨_,rfl⟩ | ⟨_,h⟩
 ·omega
 ·exact h.len hf
def exS (n:Nat) :Sen:=⟨3,2,2,⟨0,2,5⟩,0,n,0,1,false⟩
theorem exS_ok {n:Nat} (h:n≤5) :SenOk (exS n):=⟨by show rightS ⟨0,2,5⟩ =true;decide,Int.le_refl 0,by show (0:Int)≤1099511627776;decide,by show (0:Int)≤n;omega,by show (n:Int)≤5;omega,by show rightC 1=true;decide,by show hasC 1 0=true;decide,by show rightC 0=true;decide⟩
theorem exS_new:senNew 3 2 2 ⟨0,2,5⟩ 0=exS 0:=by
 unfold senNew exS;have:withC 0 (0:Int) =1:=by decide
 simp only [this]
 rfl
theorem exS_tick {n:Nat} (h:n<5) :tickedS (exS n) =exS (n+1):=by
 unfold tickedS;rw [if_pos (by show (n:Int) <5;omega)]
 rfl
theorem alive31 (w:World) :Calls Tryz.prog 7 #[] w fun e w'=>e=.returned (.bool true)∧Below w.heap.size w w':=by
 have HN:=LH (SensIn.new w 3 2 2 ⟨0,2,5⟩ 0 (by decide) (by decide));rw [show ((3:Nat) :Int) =3 from rfl,show ((2:Nat) :Int) =2 from rfl,exS_new] at HN;unfold confV plcV at HN;dsimp only at HN;have r0:readyS (exS 0) =false:=by decide
 have p0:putErr 3 (exS 0) [] 5 1=0:=by decide
 have s0: (exS 0).sent=false:=rfl
 go_enter Tryz.func7,Tryz.ntmps7
 go_wp2_with fail;refine HN.out.mono ?_;rintro e w1 ⟨g,rfl,h1⟩;have S1:=LH h1;clear h1;go_wp2_with fail;refine S1.out.ready.mono ?_;rintro e w2 ⟨rfl,hb2⟩;rw [r0];have S2:=LH (S1.out.below hb2);clear hb2 r0;go_wp2_with fail;refine(S2.out.put (by simp) 5 1).mono ?_;rintro e w3 ⟨r',rfl,hp,h3⟩;rw [p0];have hl3:=hp.len S2.out.fits;have S3:=LH h3;clear hp h3 p0;simp only [List.length_nil] at hl3;go_wp2_with fail;refine(S3.out.send (exS_ok (by omega)) (by omega)).mono ?_;intro e w4 h4
 have h4:e=.returned (.tuple #[.string ⟨#[]⟩,.int .i64 22])∧SensIn w g 2 3 (exS 0) r' w4:=by
  unfold SendIn at h4;rw [if_neg (by decide),if_pos (by decide)] at h4;exact h4
 obtain⟨rfl,k4⟩:=h4;have S4:=LH k4;clear k4;go_wp2_with fail
 go_loopw [33] (fun j wr=>∃q:Nat,j=.int .i64 q∧q≤5∧SensIn w g 2 3 (exS q) r' wr) (fun j _=>5 - (intOf j).toNat)
 case atStart=>exact⟨0,rfl,by omega,S4.out⟩
 case round=>
  obtain⟨q,rfl,hq,hS⟩:=hrel;have SR:=LH hS;clear hS;by_cases hlt:q<5
  ·have hqi: (q:Int) <5:=by omega
   have ht:=exS_tick hlt;go_wp2_with fail;refine(SR.out.tick (by show (q:Int)≤_;omega) (by show (0:Int)≤q;omega)).mono ?_;rintro e w5 ⟨rfl,h5⟩;rw [ht] at h5;have S5:=LH h5;clear h5 ht;go_wp2_with fail;go_roundw
   case rel=>exact⟨q+1,by go_num,by omega,S5.out⟩
   case measure=>simp [intOf];omega
  ·obtain rfl:q=5:=by omega
   clear hlt hq;go_wp2_with fail;refine(SR.out.send (exS_ok (by omega)) (by omega)).mono ?_;intro e w5 h5
   have h5: ∃r'' G,e=.returned (.tuple #[.string G,.int .i64 0])∧SensIn w g 2 3 (sentS (exS 5)) r'' w5∧r''.length≤r'.length:=by
    unfold SendIn at h5;rw [if_neg (by decide),if_neg (by decide)] at h5;obtain⟨ps,r'',k1,k2,k3⟩:=h5;exact⟨r'',_,k2,k3,k1.folded.len SR.out.fits⟩
   obtain⟨r'',G,rfl,h5,hl5⟩:=h5;have S5:=LH h5;clear h5;go_wp2_with fail;refine S5.out.sent.mono ?_;rintro e w6 ⟨rfl,hb6⟩;have S6:=LH (S5.out.below hb6);have e6: (sentS (exS 5)).sent=true:=rfl;rw [e6];clear hb6 e6;go_wp2_with fail;refine(S6.out.put (by omega) 5 1).mono ?_;rintro e w7 ⟨r7,rfl,_,h7⟩;have e7:putErr 3 (sentS (exS 5)) r'' 5 1=18:=by unfold putErr;rw [if_pos (show (sentS (exS 5)).sent=true from rfl)]
   rw [e7];have B7:=LH h7.le;clear h7 e7;go_wp2_with fail;exact bR (v:=.bool true) (by simp only [results,Tryz.results7];go_simp) rfl ⟨rfl,B7.out⟩
theorem ref06_Same (w:World) (A B:Option Addr) (c1 c2:Nat) (L:List Nd) (h1:Sl w w.heap.size encN A L) (h2:Sl w w.heap.size encN B L) (hn:L.length≤maxLen) :
 Calls Tryz.prog 47 #[.slice A L.length c1,.slice B L.length c2] w fun e w'=>e=.returned (.bool true)∧Below w.heap.size w w':=by
 have HA:=LH h1;have HB:=LH h2;unfold maxLen at hn;clear h1 h2
 go_enter Tryz.func47,Tryz.ntmps47
 go_wp2_with fail
 go_loopw [5] (fun j wr=>∃q:Nat,j=.int .i64 q∧q≤L.length∧Below w.heap.size w wr) (fun j _=>L.length - (intOf j).toNat)
 case atStart=>exact⟨0,rfl,Nat.zero_le _,Below.refl _ _⟩
 case round=>
  obtain⟨q,rfl,hq,hB⟩:=hrel;have BR:=LH hB;have sz:=hB.size;clear hB;by_cases hlt:q<L.length
  ·have hqi: (q:Int) < (L.length:Int):=by omega
   obtain⟨b,off,rfl,hb,hc⟩:=HA.out.at_ hlt;obtain⟨b',off',rfl,hb',hc'⟩:=HB.out.at_ hlt;have d0:=(BR.out.cell (p:=⟨b,off+q*2,none⟩) hb).trans (by have:=hc 0 (.int .i64 L[q].1) rfl;simpa using this);have d1:=(BR.out.cell (p:=⟨b,off+q*2+1,none⟩) hb).trans (hc 1 (.int .i64 L[q].2) rfl);have e0:=(BR.out.cell (p:=⟨b',off'+q*2,none⟩) hb').trans (by have:=hc' 0 (.int .i64 L[q].1) rfl;simpa using this);have e1:=(BR.out.cell (p:=⟨b',off'+q*2+1,none⟩) hb').trans (hc' 1 (.int .i64 L[q].2) rfl);have lb:b<wr.heap.size:=Nat.lt_of_lt_of_le hb sz;have lb':b'<wr.heap.size:=Nat.lt_of_lt_of_le hb' sz;generalize L[q] =y at d0 d1 e0 e1;clear hc hc';go_upto_region 6 with fail;refine rX (by kernel_rfl) (by kernel_rfl) ?_
   repeat (go_big_quiet_step (fail))
   have BRo:=BR.out;refine wpQuiet_nil ?_;intro w1 hb1;replace hb1:=bX hb1;have B1:Below w.heap.size w w1:=Below.then_ bE hb1;have s1:=B1.size;have B2:=LH (Below.then_ BR.out hb1);go_wp2_with fail;go_roundw
   case rel=>exact⟨q+1,by go_num,by omega,B2.out⟩
   case measure=>simp [intOf];omega
  ·have hqe:decide ((q:Int) < (L.length:Int)) =false:=by simp;omega
   go_wp2_with fail;exact bR (v:=.bool true) (by simp only [results,Tryz.results47];go_simp) rfl ⟨rfl,BR.out⟩
abbrev q14 (W:World) (b:Nat) (v0 v1 v2 v3 v4 v5 v6 v7 v8 v9 v10 v11 v12 v13:Value) :World:=((((((((((((((W.setCell ⟨b,0,none⟩ v0).setCell ⟨b,1,none⟩ v1).setCell ⟨b,2,none⟩ v2).setCell ⟨b,3,none⟩ v3).setCell ⟨b,4,none⟩ v4).setCell ⟨b,5,none⟩ v5).setCell ⟨b,6,none⟩ v6).setCell ⟨b,7,none⟩ v7).setCell ⟨b,8,none⟩ v8).setCell ⟨b,9,none⟩ v9).setCell ⟨b,10,none⟩ v10).setCell ⟨b,11,none⟩ v11).setCell ⟨b,12,none⟩ v12).setCell ⟨b,13,none⟩ v13)
theorem q14e (W:World) (b:Nat) (v0 v1 v2 v3 v4 v5 v6 v7 v8 v9 v10 v11 v12 v13:Value) : ((((((((((((((W.setCell ⟨b,0,none⟩ v0).setCell ⟨b,1,none⟩ v1).setCell ⟨b,2,none⟩ v2).setCell ⟨b,3,none⟩ v3).setCell ⟨b,4,none⟩ v4).setCell ⟨b,5,none⟩ v5).setCell ⟨b,6,none⟩ v6).setCell ⟨b,7,none⟩ v7).setCell ⟨b,8,none⟩ v8).setCell ⟨b,9,none⟩ v9).setCell ⟨b,10,none⟩ v10).setCell ⟨b,11,none⟩ v11).setCell ⟨b,12,none⟩ v12).setCell ⟨b,13,none⟩ v13) =q14 W b v0 v1 v2 v3 v4 v5 v6 v7 v8 v9 v10 v11 v12 v13:=rfl
theorem store14 {W:World} {b t:Nat} {z0 z1 z2 z3 z4 z5 z6 z7 z8 z9 z10 z11 z12 z13:Value} (h:W.heap[b]? =some (.cells #[z0,z1,z2,z3,z4,z5,z6,z7,z8,z9,z10,z11,z12,z13] t (0,0))) (v0 v1 v2 v3 v4 v5 v6 v7 v8 v9 v10 v11 v12 v13:Value) : (q14 W b v0 v1 v2 v3 v4 v5 v6 v7 v8 v9 v10 v11 v12 v13).heap[b]? =some (.cells #[v0,v1,v2,v3,v4,v5,v6,v7,v8,v9,v10,v11,v12,v13] t (0,0)):=by
 have h0: (W.setCell ⟨b,0,none⟩ v0).heap[b]? =some (.cells #[v0,z1,z2,z3,z4,z5,z6,z7,z8,z9,z10,z11,z12,z13] t (0,0)):=zH (i:=0) h v0;have h1: ((W.setCell ⟨b,0,none⟩ v0).setCell ⟨b,1,none⟩ v1).heap[b]? =some (.cells #[v0,v1,z2,z3,z4,z5,z6,z7,z8,z9,z10,z11,z12,z13] t (0,0)):=zH (i:=1) h0 v1;have h2: (((W.setCell ⟨b,0,none⟩ v0).setCell ⟨b,1,none⟩ v1).setCell ⟨b,2,none⟩ v2).heap[b]? =some (.cells #[v0,v1,v2,z3,z4,z5,z6,z7,z8,z9,z10,z11,z12,z13] t (0,0)):=zH (i:=2) h1 v2;have h3: ((((W.setCell ⟨b,0,none⟩ v0).setCell ⟨b,1,none⟩ v1).setCell ⟨b,2,none⟩ v2).setCell ⟨b,3,none⟩ v3).heap[b]? =some (.cells #[v0,v1,v2,v3,z4,z5,z6,z7,z8,z9,z10,z11,z12,z13] t (0,0)):=zH (i:=3) h2 v3;have h4: (((((W.setCell ⟨b,0,none⟩ v0).setCell ⟨b,1,none⟩ v1).setCell ⟨b,2,none⟩ v2).setCell ⟨b,3,none⟩ v3).setCell ⟨b,4,none⟩ v4).heap[b]? =some (.cells #[v0,v1,v2,v3,v4,z5,z6,z7,z8,z9,z10,z11,z12,z13] t (0,0)):=zH (i:=4) h3 v4;have h5: ((((((W.setCell ⟨b,0,none⟩ v0).setCell ⟨b,1,none⟩ v1).setCell ⟨b,2,none⟩ v2).setCell ⟨b,3,none⟩ v3).setCell ⟨b,4,none⟩ v4).setCell ⟨b,5,none⟩ v5).heap[b]? =some (.cells #[v0,v1,v2,v3,v4,v5,z6,z7,z8,z9,z10,z11,z12,z13] t (0,0)):=zH (i:=5) h4 v5;have h6: (((((((W.setCell ⟨b,0,none⟩ v0).setCell ⟨b,1,none⟩ v1).setCell ⟨b,2,none⟩ v2).setCell ⟨b,3,none⟩ v3).setCell ⟨b,4,none⟩ v4).setCell ⟨b,5,none⟩ v5).setCell ⟨b,6,none⟩ v6).heap[b]? =some (.cells #[v0,v1,v2,v3,v4,v5,v6,z7,z8,z9,z10,z11,z12,z13] t (0,0)):=zH (i:=6) h5 v6;have h7: ((((((((W.setCell ⟨b,0,none⟩ v0).setCell ⟨b,1,none⟩ v1).setCell ⟨b,2,none⟩ v2).setCell ⟨b,3,none⟩ v3).setCell ⟨b,4,none⟩ v4).setCell ⟨b,5,none⟩ v5).setCell ⟨b,6,none⟩ v6).setCell ⟨b,7,none⟩ v7).heap[b]? =some (.cells #[v0,v1,v2,v3,v4,v5,v6,v7,z8,z9,z10,z11,z12,z13] t (0,0)):=zH (i:=7) h6 v7;have h8: (((((((((W.setCell ⟨b,0,none⟩ v0).setCell ⟨b,1,none⟩ v1).setCell ⟨b,2,none⟩ v2).setCell ⟨b,3,none⟩ v3).setCell ⟨b,4,none⟩ v4).setCell ⟨b,5,none⟩ v5).setCell ⟨b,6,none⟩ v6).setCell ⟨b,7,none⟩ v7).setCell ⟨b,8,none⟩ v8).heap[b]? =some (.cells #[v0,v1,v2,v3,v4,v5,v6,v7,v8,z9,z10,z11,z12,z13] t (0,0)):=zH (i:=8) h7 v8;have h9: ((((((((((W.setCell ⟨b,0,none⟩ v0).setCell ⟨b,1,none⟩ v1).setCell ⟨b,2,none⟩ v2).setCell ⟨b,3,none⟩ v3).setCell ⟨b,4,none⟩ v4).setCell ⟨b,5,none⟩ v5).setCell ⟨b,6,none⟩ v6).setCell ⟨b,7,none⟩ v7).setCell ⟨b,8,none⟩ v8).setCell ⟨b,9,none⟩ v9).heap[b]? =some (.cells #[v0,v1,v2,v3,v4,v5,v6,v7,v8,v9,z10,z11,z12,z13] t (0,0)):=zH (i:=9) h8 v9;have h10: (((((((((((W.setCell ⟨b,0,none⟩ v0).setCell ⟨b,1,none⟩ v1).setCell ⟨b,2,none⟩ v2).setCell ⟨b,3,none⟩ v3).setCell ⟨b,4,none⟩ v4).setCell ⟨b,5,none⟩ v5).setCell ⟨b,6,none⟩ v6).setCell ⟨b,7,none⟩ v7).setCell ⟨b,8,none⟩ v8).setCell ⟨b,9,none⟩ v9).setCell ⟨b,10,none⟩ v10).heap[b]? =some (.cells #[v0,v1,v2,v3,v4,v5,v6,v7,v8,v9,v10,z11,z12,z13] t (0,0)):=zH (i:=10) h9 v10;have h11: ((((((((((((W.setCell ⟨b,0,none⟩ v0).setCell ⟨b,1,none⟩ v1).setCell ⟨b,2,none⟩ v2).setCell ⟨b,3,none⟩ v3).setCell ⟨b,4,none⟩ v4).setCell ⟨b,5,none⟩ v5).setCell ⟨b,6,none⟩ v6).setCell ⟨b,7,none⟩ v7).setCell ⟨b,8,none⟩ v8).setCell ⟨b,9,none⟩ v9).setCell ⟨b,10,none⟩ v10).setCell ⟨b,11,none⟩ v11).heap[b]? =some (.cells #[v0,v1,v2,v3,v4,v5,v6,v7,v8,v9,v10,v11,z12,z13] t (0,0)):=zH (i:=11) h10 v11;have h12: (((((((((((((W.setCell ⟨b,0,none⟩ v0).setCell ⟨b,1,none⟩ v1).setCell ⟨b,2,none⟩ v2).setCell ⟨b,3,none⟩ v3).setCell ⟨b,4,none⟩ v4).setCell ⟨b,5,none⟩ v5).setCell ⟨b,6,none⟩ v6).setCell ⟨b,7,none⟩ v7).setCell ⟨b,8,none⟩ v8).setCell ⟨b,9,none⟩ v9).setCell ⟨b,10,none⟩ v10).setCell ⟨b,11,none⟩ v11).setCell ⟨b,12,none⟩ v12).heap[b]? =some (.cells #[v0,v1,v2,v3,v4,v5,v6,v7,v8,v9,v10,v11,v12,z13] t (0,0)):=zH (i:=12) h11 v12;have h13: ((((((((((((((W.setCell ⟨b,0,none⟩ v0).setCell ⟨b,1,none⟩ v1).setCell ⟨b,2,none⟩ v2).setCell ⟨b,3,none⟩ v3).setCell ⟨b,4,none⟩ v4).setCell ⟨b,5,none⟩ v5).setCell ⟨b,6,none⟩ v6).setCell ⟨b,7,none⟩ v7).setCell ⟨b,8,none⟩ v8).setCell ⟨b,9,none⟩ v9).setCell ⟨b,10,none⟩ v10).setCell ⟨b,11,none⟩ v11).setCell ⟨b,12,none⟩ v12).setCell ⟨b,13,none⟩ v13).heap[b]? =some (.cells #[v0,v1,v2,v3,v4,v5,v6,v7,v8,v9,v10,v11,v12,v13] t (0,0)):=zH (i:=13) h12 v13;exact h13
theorem store14_below {w W:World} {b base:Nat} (h:Below base w W) (hb:base≤b) (v0 v1 v2 v3 v4 v5 v6 v7 v8 v9 v10 v11 v12 v13:Value) :Below base w (q14 W b v0 v1 v2 v3 v4 v5 v6 v7 v8 v9 v10 v11 v12 v13):=
 Below.setCell (p:=⟨b,13,none⟩) (Below.setCell (p:=⟨b,12,none⟩) (Below.setCell (p:=⟨b,11,none⟩) (Below.setCell (p:=⟨b,10,none⟩) (Below.setCell (p:=⟨b,9,none⟩) (Below.setCell (p:=⟨b,8,none⟩) (Below.setCell (p:=⟨b,7,none⟩) (Below.setCell (p:=⟨b,6,none⟩) (Below.setCell (p:=⟨b,5,none⟩) (Below.setCell (p:=⟨b,4,none⟩) (Below.setCell (p:=⟨b,3,none⟩) (Below.setCell (p:=⟨b,2,none⟩) (Below.setCell (p:=⟨b,1,none⟩) (Below.setCell (p:=⟨b,0,none⟩) (h) hb v0) hb v1) hb v2) hb v3) hb v4) hb v5) hb v6) hb v7) hb v8) hb v9) hb v10) hb v11) hb v12) hb v13
def refC (s:Sen) (A:Option Addr) (n c:Nat) :Array Value:= #[.int .i64 s.l,.int .i64 s.k,.int .i64 s.kd,.int .i64 s.p.me,.int .i64 s.p.wait,.int .u64 s.p.kids,.int .i64 s.ep,.int .i64 s.ti,.int .u64 s.heard,.int .u64 s.cover,.bool s.sent,.int .i64 s.k,.int .i64 s.l,.slice A n c]
def refV (s:Sen) (A:Option Addr) (n c:Nat) :Value:=.agg (refC s A n c)
theorem ref31_Is (w:World) (l k K:Int) (p:Plc) (ep:Int) (hk:p.kids<2^64) :
 Calls Tryz.prog 35 #[confV l k K,.int .i64 p.me,.int .u64 p.kids,.int .i64 p.wait,.int .i64 ep] w fun e w'=>e=.returned (.bool (newS l k K p ep))∧Below w.heap.size w w':=by
 obtain⟨me,kids,wait⟩:=p;dsimp only at*;have HD:=LH (fun W=>ref13_Is W l k K);have HI:=LH (fun W=>ref27_Is me W);have HR:=LH (fun W=>ref27_Right kids W);have HH:=LH (fun W=>ref27_Has kids me hk W);have B0:Hid (Below w.heap.size w (w.alloc (.cells #[.int .i64 l,.int .i64 k,.int .i64 K] 23))):=LH bE;obtain⟨z,hz⟩ : ∃z,z=newS l k K ⟨me,kids,wait⟩ ep:=⟨_,rfl⟩;rw [←hz];have HZ:=LH hz;unfold newS rightS at HZ;dsimp only at HZ;unfold confV;clear hk hz;generalize isDig l k K=z0 at HD HZ;generalize isCrew me=z1 at HI HZ;generalize rightC kids=z2 at HR HZ;generalize hasC kids me=z3 at HH HZ
 go_enter Tryz.func35,Tryz.ntmps35
 go_wp2_with fail;refine(HD.out _).mono ?_;rintro e w1 ⟨rfl,hb1⟩;have B1:=LH (B0.out.trans (hb1.mono (by simp)));clear hb1
 cases z0
 ·go_wp2_with fail
  exact bR (v:=.bool false) (by simp only [results,Tryz.results35];go_simp) rfl ⟨by rw [HZ.out];rfl,B1.out⟩
 go_wp2_with fail;refine(HI.out _).mono ?_;rintro e w2 ⟨rfl,hb2⟩;have B2:=LH (Below.then_ B1.out hb2);clear hb2
 cases z1
 ·go_wp2_with fail
  exact bR (v:=.bool false) (by simp only [results,Tryz.results35];go_simp) rfl ⟨by rw [HZ.out];rfl,B2.out⟩
 go_wp2_with fail;refine(HR.out _).mono ?_;rintro e w3 ⟨rfl,hb3⟩;have B3:=LH (Below.then_ B2.out hb3);clear hb3
 cases z2
 ·go_wp2_with fail
  exact bR (v:=.bool false) (by simp only [results,Tryz.results35];go_simp) rfl ⟨by rw [HZ.out];rfl,B3.out⟩
 go_wp2_with fail;refine(HH.out _).mono ?_;rintro e w4 ⟨rfl,hb4⟩;have B4:=LH (Below.then_ B3.out hb4);clear hb4
 cases z3
 ·by_cases h1:1≤wait
  ·have d1:decide (1≤wait) =true:=by simpa using h1
   by_cases h2:wait≤1048576
   ·have d2:decide (wait≤1048576) =true:=by simpa using h2
    by_cases h3:0≤ep
    ·have d3:decide (0≤ep) =true:=by simpa using h3
     rw [d1,d2,d3] at HZ;go_wp2_with fail;exact bR (v:=.bool (decide (ep≤1099511627776))) (by simp only [results,Tryz.results35];go_simp) rfl ⟨by rw [HZ.out];rfl,B4.out⟩
    ·have d3:decide (0≤ep) =false:=by simpa using h3
     rw [d1,d2,d3] at HZ;go_wp2_with fail;exact bR (v:=.bool false) (by simp only [results,Tryz.results35];go_simp) rfl ⟨by rw [HZ.out];rfl,B4.out⟩
   ·have d2:decide (wait≤1048576) =false:=by simpa using h2
    rw [d1,d2] at HZ;go_wp2_with fail;exact bR (v:=.bool false) (by simp only [results,Tryz.results35];go_simp) rfl ⟨by rw [HZ.out];rfl,B4.out⟩
  ·have d1:decide (1≤wait) =false:=by simpa using h1
   rw [d1] at HZ;go_wp2_with fail;exact bR (v:=.bool false) (by simp only [results,Tryz.results35];go_simp) rfl ⟨by rw [HZ.out];rfl,B4.out⟩
 ·go_wp2_with fail
  exact bR (v:=.bool false) (by simp only [results,Tryz.results35];go_simp) rfl ⟨by rw [HZ.out];rfl,B4.out⟩
def RefAt (W:World) (g:Nat) (s:Sen) (A:Option Addr) (n c:Nat) :Prop:=W.heap[g]? =some (.cells (refC s A n c) 37 (0,0))
theorem ref31_Ready (w:World) (s:Sen) (A:Option Addr) (n c:Nat) (h:SenOk s) :Calls Tryz.prog 45 #[refV s A n c] w fun e w'=>e=.returned (.bool (readyS s))∧Below w.heap.size w w':=by
 have h1:=h.t1
 have e1:decide (s.p.wait≤s.ti) = (s.ti == s.p.wait):=by
  rw [Bool.eq_iff_iff,decide_eq_true_iff,beq_iff_eq];omega
 unfold readyS;rw [e1];clear e1 h1 h;unfold refV refC;obtain⟨l,k,kd,⟨me,kids,wait⟩,ep,ti,heard,cover,sent⟩:=s;dsimp only
 cases sent
 ·by_cases h1:heard=kids
  ·have h1': ((heard:Int) == (kids:Int)) =true:=beq_iff_eq.2 (by omega)
   have hd:decide (heard=kids) =true:=by simpa using h1
   rw [hd];clear h1 hd
   go_enter Tryz.func45,Tryz.ntmps45
   go_wp2_with fail;exact bR (v:=.bool true) (by simp only [results,Tryz.results45];go_simp) rfl ⟨rfl,bE⟩
  ·have h1': ((heard:Int) == (kids:Int)) =false:=by simp;omega
   have hd:decide (heard=kids) =false:=by simpa using h1
   rw [hd];clear h1 hd
   go_enter Tryz.func45,Tryz.ntmps45
   go_wp2_with fail;exact bR (v:=.bool (ti == wait)) (by simp only [results,Tryz.results45];go_simp) rfl ⟨rfl,bE⟩
 ·go_enter Tryz.func45,Tryz.ntmps45
  go_wp2_with fail;exact bR (v:=.bool false) (by simp only [results,Tryz.results45];go_simp) rfl ⟨rfl,bE⟩
theorem ref31_New (w:World) (l k kd:Int) (p:Plc) (ep:Int) :Calls Tryz.prog 36 #[confV l k kd,.int .i64 p.me,.int .u64 p.kids,.int .i64 p.wait,.int .i64 ep] w fun e w'=>e=.returned (refV (senNew l k kd p ep) none 0 0)∧Below w.heap.size w w':=by
 obtain⟨me,kids,wait⟩:=p;unfold senNew refV refC confV;dsimp only;have HW:=LH (fun W=>ref27_With 0 me (by decide) W);have HN:=LH (fun W=>ref13_New W l k kd)
 go_enter Tryz.func36,Tryz.ntmps36
 go_upto_region 1 with fail;have X0:Hid (((w.alloc (.cells #[.int .i64 l,.int .i64 k,.int .i64 kd] 23)).alloc (.cells #[.int .i64 0,.int .i64 0,.int .i64 0,.int .i64 0,.int .i64 0,.int .u64 0,.int .i64 0,.int .i64 0,.int .u64 0,.int .u64 0,.bool false,.int .i64 0,.int .i64 0,.slice none 0 0] 37)).heap[w.heap.size]? =some (.cells #[.int .i64 l,.int .i64 k,.int .i64 kd] 23 (0,0))):=LH ((heap_new_lt _ _ _ (by simp)).trans (heap_alloc_new w _));have Y0:Hid (((w.alloc (.cells #[.int .i64 l,.int .i64 k,.int .i64 kd] 23)).alloc (.cells #[.int .i64 0,.int .i64 0,.int .i64 0,.int .i64 0,.int .i64 0,.int .u64 0,.int .i64 0,.int .i64 0,.int .u64 0,.int .u64 0,.bool false,.int .i64 0,.int .i64 0,.slice none 0 0] 37)).heap[w.heap.size+1]? =some (.cells #[.int .i64 0,.int .i64 0,.int .i64 0,.int .i64 0,.int .i64 0,.int .u64 0,.int .i64 0,.int .i64 0,.int .u64 0,.int .u64 0,.bool false,.int .i64 0,.int .i64 0,.slice none 0 0] 37 (0,0))):=LH (heap_new_at (w.alloc _) _ _ (by simp));have B0:Hid (Below w.heap.size w ((w.alloc (.cells #[.int .i64 l,.int .i64 k,.int .i64 kd] 23)).alloc (.cells #[.int .i64 0,.int .i64 0,.int .i64 0,.int .i64 0,.int .i64 0,.int .u64 0,.int .i64 0,.int .i64 0,.int .u64 0,.int .u64 0,.bool false,.int .i64 0,.int .i64 0,.slice none 0 0] 37))):=LH bE;generalize (w.alloc (.cells #[.int .i64 l,.int .i64 k,.int .i64 kd] 23)).alloc (.cells #[.int .i64 0,.int .i64 0,.int .i64 0,.int .i64 0,.int .i64 0,.int .u64 0,.int .i64 0,.int .i64 0,.int .u64 0,.int .u64 0,.bool false,.int .i64 0,.int .i64 0,.slice none 0 0] 37) =W0 at X0 Y0 B0⊢;replace Y0:Hid (W0.drew.heap[w.heap.size+1]? =_):=Y0;replace B0:=LH B0.out.drew;refine wp_region_noPanic ?_;refine wp_region_N (fun w'=>w'.heap[w.heap.size]? =some (.cells #[.int .i64 l,.int .i64 k,.int .i64 kd] 23 (0,0))) [10] (by kernel_rfl) (X0.out) (fun hHeld=> ?_);generalize W0.drew=Wd at Y0 B0 hHeld⊢;refine nT 0 (Value.agg #[.int .i64 l,.int .i64 k,.int .i64 kd]) (y:=Or.inl ⟨by rfl,fun W hW=>by have q1:=bC hW;have q2:=lB hW;go_simp⟩) (s:=hHeld) (h:= ?_)
 (try simp only [zA,zB,zC,Act.put,zD,zE,zF])
 refine nP 1 (Value.int .i64 me) (h:= ?_)
 (try simp only [zA,zB,zC,Act.put,zD,zE,zF])
 refine nP 2 (Value.int .i64 wait) (h:= ?_)
 (try simp only [zA,zB,zC,Act.put,zD,zE,zF])
 refine nP 3 (Value.int .u64 kids) (h:= ?_)
 (try simp only [zA,zB,zC,Act.put,zD,zE,zF])
 refine nP 4 (Value.int .i64 ep) (h:= ?_)
 (try simp only [zA,zB,zC,Act.put,zD,zE,zF])
 refine nP 5 (Value.int .i64 me) (h:= ?_)
 (try simp only [zA,zB,zC,Act.put,zD,zE,zF])
 refine nT 7 (Value.agg #[.int .i64 l,.int .i64 k,.int .i64 kd]) (y:=Or.inl ⟨by rfl,fun W hW=>by have q1:=bC hW;have q2:=lB hW;go_simp⟩) (s:=hHeld) (h:= ?_)
 (try simp only [zA,zB,zC,Act.put,zD,zE,zF])
 refine nO (i:=6) (by kernel_rfl) rfl (fun K hK=> ?_);go_simp;refine(HW.out _).mono ?_;rintro e w1 ⟨rfl,hb1⟩;have Y1:=LH (bB Y0.out hb1);have B1:=LH (Below.then_ B0.out hb1);replace hHeld:=bB hHeld hb1;clear hb1;refine hK.out _ _ (fun _ _=>hHeld) ?_;clear hK K
 (try simp only [zA,zB,zC,Act.put,zD,zE,zF])
 refine nO (i:=8) (by kernel_rfl) rfl (fun K hK=> ?_);go_simp;refine(HN.out _).mono ?_;rintro e w2 ⟨rfl,hb2⟩;have Y2:=LH (bB Y1.out hb2);have B2:=LH (Below.then_ B1.out hb2);replace hHeld:=bB hHeld hb2;clear hb2;refine hK.out _ _ (fun _ _=>hHeld) ?_;clear hK K
 (try simp only [zA,zB,zC,Act.put,zD,zE,zF])
 refine nP 9 (Value.agg #[.int .i64 l,.int .i64 k,.int .i64 kd,.int .i64 me,.int .i64 wait,.int .u64 kids,.int .i64 ep,.int .i64 0,.int .u64 0,.int .u64 ((withC 0 me:Nat) :Int),.bool false,.int .i64 k,.int .i64 l,.slice none 0 0]) (h:= ?_)
 (try simp only [zA,zB,zC,Act.put,zD,zE,zF])
 have q3:=bC Y2.out;have q4:=lB Y2.out;have q5:=bF Y2.out;refine nO (i:=10) (by kernel_rfl) rfl (fun K hK=> ?_);go_simp;go_simp;refine hK.out _ _ (fun h _=>absurd (by decide) h) ?_;clear hK K
 (try simp only [zA,zB,zC,Act.put,zD,zE,zF])
 refine nD (by kernel_rfl) ?_ _;refine NoPanic.normal ?_;have Y3:Hid ((q14 w2 (w.heap.size+1) (.int .i64 l) (.int .i64 k) (.int .i64 kd) (.int .i64 me) (.int .i64 wait) (.int .u64 kids) (.int .i64 ep) (.int .i64 0) (.int .u64 0) (.int .u64 ((withC 0 me:Nat) :Int)) (.bool false) (.int .i64 k) (.int .i64 l) (.slice none 0 0)).heap[w.heap.size+1]? =some (.cells #[.int .i64 l,.int .i64 k,.int .i64 kd,.int .i64 me,.int .i64 wait,.int .u64 kids,.int .i64 ep,.int .i64 0,.int .u64 0,.int .u64 ((withC 0 me:Nat) :Int),.bool false,.int .i64 k,.int .i64 l,.slice none 0 0] 37 (0,0))):=LH (store14 Y2.out (.int .i64 l) (.int .i64 k) (.int .i64 kd) (.int .i64 me) (.int .i64 wait) (.int .u64 kids) (.int .i64 ep) (.int .i64 0) (.int .u64 0) (.int .u64 ((withC 0 me:Nat) :Int)) (.bool false) (.int .i64 k) (.int .i64 l) (.slice none 0 0));have B3:Hid (Below w.heap.size w (q14 w2 (w.heap.size+1) (.int .i64 l) (.int .i64 k) (.int .i64 kd) (.int .i64 me) (.int .i64 wait) (.int .u64 kids) (.int .i64 ep) (.int .i64 0) (.int .u64 0) (.int .u64 ((withC 0 me:Nat) :Int)) (.bool false) (.int .i64 k) (.int .i64 l) (.slice none 0 0))):=LH (store14_below B2.out (by simp) (.int .i64 l) (.int .i64 k) (.int .i64 kd) (.int .i64 me) (.int .i64 wait) (.int .u64 kids) (.int .i64 ep) (.int .i64 0) (.int .u64 0) (.int .u64 ((withC 0 me:Nat) :Int)) (.bool false) (.int .i64 k) (.int .i64 l) (.slice none 0 0));clear q3 q4 q5;rw [q14e];generalize (q14 w2 (w.heap.size+1) (.int .i64 l) (.int .i64 k) (.int .i64 kd) (.int .i64 me) (.int .i64 wait) (.int .u64 kids) (.int .i64 ep) (.int .i64 0) (.int .u64 0) (.int .u64 ((withC 0 me:Nat) :Int)) (.bool false) (.int .i64 k) (.int .i64 l) (.slice none 0 0)) =W3 at Y3 B3⊢;have c3:=bC Y3.out;have f3:=bF Y3.out;have z3:=lB Y3.out;go_wp2_with fail;exact bR (v:=.agg #[.int .i64 l,.int .i64 k,.int .i64 kd,.int .i64 me,.int .i64 wait,.int .u64 kids,.int .i64 ep,.int .i64 0,.int .u64 0,.int .u64 ((withC 0 me:Nat) :Int),.bool false,.int .i64 k,.int .i64 l,.slice none 0 0]) (by simp only [results,Tryz.results36];go_simp) rfl ⟨rfl,B3.out⟩
theorem store14_slT [Zone] {W:World} {b:Nat} {cs:Array Value} {A:Option Addr} {L:List Nd} (h:W.heap[b]? =some (.cells cs 37 (0,0))) (s:SlZ W 154 encN A L) (v0 v1 v2 v3 v4 v5 v6 v7 v8 v9 v10 v11 v12 v13:Value) :SlZ (q14 W b v0 v1 v2 v3 v4 v5 v6 v7 v8 v9 v10 v11 v12 v13) 154 encN A L:=by
 have t0:TypeAt W b 37:=.of h;have s0:=s.setCellT (p:=⟨b,0,none⟩) (u:=v0) (t:=37) t0 (by decide);have t1:=TypeAt.setCell (p:=⟨b,0,none⟩) (u:=v0) t0;have s1:=s0.setCellT (p:=⟨b,1,none⟩) (u:=v1) (t:=37) t1 (by decide);have t2:=TypeAt.setCell (p:=⟨b,1,none⟩) (u:=v1) t1;have s2:=s1.setCellT (p:=⟨b,2,none⟩) (u:=v2) (t:=37) t2 (by decide);have t3:=TypeAt.setCell (p:=⟨b,2,none⟩) (u:=v2) t2;have s3:=s2.setCellT (p:=⟨b,3,none⟩) (u:=v3) (t:=37) t3 (by decide);have t4:=TypeAt.setCell (p:=⟨b,3,none⟩) (u:=v3) t3;have s4:=s3.setCellT (p:=⟨b,4,none⟩) (u:=v4) (t:=37) t4 (by decide);have t5:=TypeAt.setCell (p:=⟨b,4,none⟩) (u:=v4) t4;have s5:=s4.setCellT (p:=⟨b,5,none⟩) (u:=v5) (t:=37) t5 (by decide);have t6:=TypeAt.setCell (p:=⟨b,5,none⟩) (u:=v5) t5;have s6:=s5.setCellT (p:=⟨b,6,none⟩) (u:=v6) (t:=37) t6 (by decide);have t7:=TypeAt.setCell (p:=⟨b,6,none⟩) (u:=v6) t6;have s7:=s6.setCellT (p:=⟨b,7,none⟩) (u:=v7) (t:=37) t7 (by decide);have t8:=TypeAt.setCell (p:=⟨b,7,none⟩) (u:=v7) t7;have s8:=s7.setCellT (p:=⟨b,8,none⟩) (u:=v8) (t:=37) t8 (by decide);have t9:=TypeAt.setCell (p:=⟨b,8,none⟩) (u:=v8) t8;have s9:=s8.setCellT (p:=⟨b,9,none⟩) (u:=v9) (t:=37) t9 (by decide);have t10:=TypeAt.setCell (p:=⟨b,9,none⟩) (u:=v9) t9;have s10:=s9.setCellT (p:=⟨b,10,none⟩) (u:=v10) (t:=37) t10 (by decide);have t11:=TypeAt.setCell (p:=⟨b,10,none⟩) (u:=v10) t10;have s11:=s10.setCellT (p:=⟨b,11,none⟩) (u:=v11) (t:=37) t11 (by decide);have t12:=TypeAt.setCell (p:=⟨b,11,none⟩) (u:=v11) t11;have s12:=s11.setCellT (p:=⟨b,12,none⟩) (u:=v12) (t:=37) t12 (by decide);have t13:=TypeAt.setCell (p:=⟨b,12,none⟩) (u:=v12) t12;have s13:=s12.setCellT (p:=⟨b,13,none⟩) (u:=v13) (t:=37) t13 (by decide);have t14:=TypeAt.setCell (p:=⟨b,13,none⟩) (u:=v13) t13;exact s13
structure SnR (w:World) (cs:Array Value) (W:World) :Prop where
 x:W.heap[w.heap.size]? =some (.cells cs 37 (0,0))
 z:W.heap[w.heap.size+1]? =some (.cells #[.int .i64 0,.int .i64 0,.int .i64 0,.int .i64 0,.int .i64 0,.int .u64 0,.int .i64 0,.int .i64 0,.int .u64 0,.int .u64 0,.bool false,.int .i64 0,.int .i64 0,.slice none 0 0] 37 (0,0))
 b:Below w.heap.size w W
theorem SnR.below {w W W':World} {cs:Array Value} (h:SnR w cs W) (hb:Below W.heap.size W W') :SnR w cs W':=⟨bB h.x hb,bB h.z hb,h.b.trans (hb.mono h.b.size)⟩
theorem SnR.put {w W:World} {cs:Array Value} (h:SnR w cs W) (i:Nat) (u:Value) :SnR w (cs.setIfInBounds i u) (W.setCell ⟨w.heap.size,i,none⟩ u):=
 ⟨zH (i:=i) h.x u,(Below.heap_setCell _ _ _ _ (by simp)).trans h.z,h.b.setCell (p:=⟨w.heap.size,i,none⟩) (Nat.le_refl _) u⟩
theorem SnR.first (w:World) (cs:Array Value) :SnR w cs ((w.alloc (.cells cs 37)).alloc (.cells #[.int .i64 0,.int .i64 0,.int .i64 0,.int .i64 0,.int .i64 0,.int .u64 0,.int .i64 0,.int .i64 0,.int .u64 0,.int .u64 0,.bool false,.int .i64 0,.int .i64 0,.slice none 0 0] 37)):=
 ⟨(heap_new_lt _ _ _ (by simp)).trans (heap_alloc_new w _),heap_new_at (w.alloc _) _ _ (by simp),bE⟩
theorem SnR.slT [Zone] {w W:World} {cs:Array Value} {A:Option Addr} {L:List Nd} (h:SnR w cs W) (s:SlZ W 154 encN A L) (i:Nat) (u:Value) :SlZ (W.setCell ⟨w.heap.size,i,none⟩ u) 154 encN A L:=s.setCellT (t:=37) (.of h.x) (by decide)
theorem ref31_Tick (w:World) (s:Sen) (A:Option Addr) (n c:Nat) (h0:0≤s.ti) (h1:s.ti≤1048576) :
 Calls Tryz.prog 40 #[refV s A n c] w fun e w'=>e=.returned (refV (tickedS s) A n c)∧Below w.heap.size w w':=by
 obtain⟨sl,sk,sK,⟨me,kids,wait⟩,ep,ti,hd,cv,st⟩:=s;dsimp only at h0 h1;unfold tickedS;by_cases h:ti<wait
 all_goals first|rw [if_pos h] |rw [if_neg h]
 all_goals unfold refV refC
 all_goals first|unfold tickS|skip
 all_goals dsimp only
 all_goals have R0:=LH (SnR.first w #[.int .i64 sl,.int .i64 sk,.int .i64 sK,.int .i64 me,.int .i64 wait,.int .u64 kids,.int .i64 ep,.int .i64 ti,.int .u64 hd,.int .u64 cv,.bool st,.int .i64 sk,.int .i64 sl,.slice A n c])
 all_goals go_enter Tryz.func40,Tryz.ntmps40
 all_goals go_upto_region 1 with fail
 all_goals generalize ((w.alloc (.cells #[.int .i64 sl,.int .i64 sk,.int .i64 sK,.int .i64 me,.int .i64 wait,.int .u64 kids,.int .i64 ep,.int .i64 ti,.int .u64 hd,.int .u64 cv,.bool st,.int .i64 sk,.int .i64 sl,.slice A n c] 37)).alloc (.cells #[.int .i64 0,.int .i64 0,.int .i64 0,.int .i64 0,.int .i64 0,.int .u64 0,.int .i64 0,.int .i64 0,.int .u64 0,.int .u64 0,.bool false,.int .i64 0,.int .i64 0,.slice none 0 0] 37)) =W0 at R0⊢
 all_goals have cx:=bC R0.out.x
 all_goals have zx:=lB R0.out.x
 all_goals have fx:=bF R0.out.x
 ·have hd1:decide (ti<wait) =true:=by simpa using h
  go_upto_region 3 with fail;have R1:Hid (SnR w #[.int .i64 sl,.int .i64 sk,.int .i64 sK,.int .i64 me,.int .i64 wait,.int .u64 kids,.int .i64 ep,.int .i64 (ti+1),.int .u64 hd,.int .u64 cv,.bool st,.int .i64 sk,.int .i64 sl,.slice A n c] (W0.setCell ⟨w.heap.size,7,none⟩ (.int .i64 (ti+1)))):=LH (R0.out.put 7 (.int .i64 (ti+1)));generalize W0.setCell ⟨w.heap.size,7,none⟩ (.int .i64 (ti+1)) =W1 at R1⊢;clear cx zx fx;have cx:=bC R1.out.x;have zx:=lB R1.out.x;have cz:=bC R1.out.z;have fz:=bF R1.out.z;have zz:=lB R1.out.z;have Y:Hid ((q14 W1 (w.heap.size+1) (.int .i64 sl) (.int .i64 sk) (.int .i64 sK) (.int .i64 me) (.int .i64 wait) (.int .u64 kids) (.int .i64 ep) (.int .i64 (ti+1)) (.int .u64 hd) (.int .u64 cv) (.bool st) (.int .i64 sk) (.int .i64 sl) (.slice A n c)).heap[w.heap.size+1]? =some (.cells #[.int .i64 sl,.int .i64 sk,.int .i64 sK,.int .i64 me,.int .i64 wait,.int .u64 kids,.int .i64 ep,.int .i64 (ti+1),.int .u64 hd,.int .u64 cv,.bool st,.int .i64 sk,.int .i64 sl,.slice A n c] 37 (0,0))):=LH (store14 R1.out.z (.int .i64 sl) (.int .i64 sk) (.int .i64 sK) (.int .i64 me) (.int .i64 wait) (.int .u64 kids) (.int .i64 ep) (.int .i64 (ti+1)) (.int .u64 hd) (.int .u64 cv) (.bool st) (.int .i64 sk) (.int .i64 sl) (.slice A n c));have B:Hid (Below w.heap.size w (q14 W1 (w.heap.size+1) (.int .i64 sl) (.int .i64 sk) (.int .i64 sK) (.int .i64 me) (.int .i64 wait) (.int .u64 kids) (.int .i64 ep) (.int .i64 (ti+1)) (.int .u64 hd) (.int .u64 cv) (.bool st) (.int .i64 sk) (.int .i64 sl) (.slice A n c))):=LH (store14_below R1.out.b (by simp) (.int .i64 sl) (.int .i64 sk) (.int .i64 sK) (.int .i64 me) (.int .i64 wait) (.int .u64 kids) (.int .i64 ep) (.int .i64 (ti+1)) (.int .u64 hd) (.int .u64 cv) (.bool st) (.int .i64 sk) (.int .i64 sl) (.slice A n c));go_wp2_with fail;clear cx zx cz fz zz;rw [q14e];generalize (q14 W1 (w.heap.size+1) (.int .i64 sl) (.int .i64 sk) (.int .i64 sK) (.int .i64 me) (.int .i64 wait) (.int .u64 kids) (.int .i64 ep) (.int .i64 (ti+1)) (.int .u64 hd) (.int .u64 cv) (.bool st) (.int .i64 sk) (.int .i64 sl) (.slice A n c)) =wz at Y B⊢;have ce:=bC Y.out;have fe:=bF Y.out;have ze:=lB Y.out;exact bR (v:=.agg #[.int .i64 sl,.int .i64 sk,.int .i64 sK,.int .i64 me,.int .i64 wait,.int .u64 kids,.int .i64 ep,.int .i64 (ti+1),.int .u64 hd,.int .u64 cv,.bool st,.int .i64 sk,.int .i64 sl,.slice A n c]) (by simp only [results,Tryz.results40];go_simp) rfl (⟨rfl,B.out⟩)
 ·have hd1:decide (ti<wait) =false:=by simpa using h
  clear fx cx zx;have cx:=bC R0.out.x;have zx:=lB R0.out.x;go_upto_region 3 with fail;clear cx zx;have cx:=bC R0.out.x;have zx:=lB R0.out.x;have cz:=bC R0.out.z;have fz:=bF R0.out.z;have zz:=lB R0.out.z;have Y:Hid ((q14 W0 (w.heap.size+1) (.int .i64 sl) (.int .i64 sk) (.int .i64 sK) (.int .i64 me) (.int .i64 wait) (.int .u64 kids) (.int .i64 ep) (.int .i64 ti) (.int .u64 hd) (.int .u64 cv) (.bool st) (.int .i64 sk) (.int .i64 sl) (.slice A n c)).heap[w.heap.size+1]? =some (.cells #[.int .i64 sl,.int .i64 sk,.int .i64 sK,.int .i64 me,.int .i64 wait,.int .u64 kids,.int .i64 ep,.int .i64 ti,.int .u64 hd,.int .u64 cv,.bool st,.int .i64 sk,.int .i64 sl,.slice A n c] 37 (0,0))):=LH (store14 R0.out.z (.int .i64 sl) (.int .i64 sk) (.int .i64 sK) (.int .i64 me) (.int .i64 wait) (.int .u64 kids) (.int .i64 ep) (.int .i64 ti) (.int .u64 hd) (.int .u64 cv) (.bool st) (.int .i64 sk) (.int .i64 sl) (.slice A n c));have B:Hid (Below w.heap.size w (q14 W0 (w.heap.size+1) (.int .i64 sl) (.int .i64 sk) (.int .i64 sK) (.int .i64 me) (.int .i64 wait) (.int .u64 kids) (.int .i64 ep) (.int .i64 ti) (.int .u64 hd) (.int .u64 cv) (.bool st) (.int .i64 sk) (.int .i64 sl) (.slice A n c))):=LH (store14_below R0.out.b (by simp) (.int .i64 sl) (.int .i64 sk) (.int .i64 sK) (.int .i64 me) (.int .i64 wait) (.int .u64 kids) (.int .i64 ep) (.int .i64 ti) (.int .u64 hd) (.int .u64 cv) (.bool st) (.int .i64 sk) (.int .i64 sl) (.slice A n c));go_wp2_with fail;clear cx zx cz fz zz;rw [q14e];generalize (q14 W0 (w.heap.size+1) (.int .i64 sl) (.int .i64 sk) (.int .i64 sK) (.int .i64 me) (.int .i64 wait) (.int .u64 kids) (.int .i64 ep) (.int .i64 ti) (.int .u64 hd) (.int .u64 cv) (.bool st) (.int .i64 sk) (.int .i64 sl) (.slice A n c)) =wz at Y B⊢;have ce:=bC Y.out;have fe:=bF Y.out;have ze:=lB Y.out;exact bR (v:=.agg #[.int .i64 sl,.int .i64 sk,.int .i64 sK,.int .i64 me,.int .i64 wait,.int .u64 kids,.int .i64 ep,.int .i64 ti,.int .u64 hd,.int .u64 cv,.bool st,.int .i64 sk,.int .i64 sl,.slice A n c]) (by simp only [results,Tryz.results40];go_simp) rfl (⟨rfl,B.out⟩)
def Put31Post [Zone] (l:Nat) (s:Sen) (r:List Nd) (x c:Int) (w:World) (e:Ending) (w':World) :Prop:=
 ∃(r':List Nd) (A':Option Addr) (c':Nat),e=.returned (.tuple #[refV s A' r'.length c',.int .i64 (putErr l s r x c)])∧PutTo l s r x c r'∧SlZ w' 154 encN A' r'∧Below w.heap.size w w'
theorem ref31_Put [Zone] (w:World) (l:Nat) (s:Sen) (A:Option Addr) (c:Nat) (r:List Nd) (x y:Int) (hsl:s.l=l) (hl:1≤l∧l≤48) (hS:SlZ w 154 encN A r) (hf:Fits l r) (hlen:r.length≤999) (hk:1≤s.k) (hk2:s.k≤1048576) (h8: (r.length:Int)≤8*s.k) :
 Calls Tryz.prog 37 #[refV s A r.length c,.int .i64 x,.int .i64 y] w (Put31Post l s r x y w):=by
 obtain⟨sl,sk,sK,⟨me,kids,wait⟩,ep,ti,hd,cv,st⟩:=s;dsimp only at hk hk2 h8 hsl;obtain rfl:=hsl;have HI:=LH (fun W h=>ref13_InsertC W l sk A c r x y hl h hf (fits_ints hf hl.2) hlen hk hk2 h8);unfold Ins13Post at HI;unfold refV refC;dsimp only;obtain⟨n,hn⟩ : ∃n,n=r.length:=⟨_,rfl⟩;rw [←hn] at HI⊢;have HN:=LH hn;clear hn;have S0:=LH (show SlZ ((w.alloc (.cells #[.int .i64 l,.int .i64 sk,.int .i64 sK,.int .i64 me,.int .i64 wait,.int .u64 kids,.int .i64 ep,.int .i64 ti,.int .u64 hd,.int .u64 cv,.bool st,.int .i64 sk,.int .i64 l,.slice A n c] 37)).alloc (.cells #[.int .i64 0,.int .i64 0,.int .i64 0,.int .i64 0,.int .i64 0,.int .u64 0,.int .i64 0,.int .i64 0,.int .u64 0,.int .u64 0,.bool false,.int .i64 0,.int .i64 0,.slice none 0 0] 37)) 154 encN A r from(hS.alloc _).alloc _);clear hS hf;have R0:=LH (SnR.first w #[.int .i64 l,.int .i64 sk,.int .i64 sK,.int .i64 me,.int .i64 wait,.int .u64 kids,.int .i64 ep,.int .i64 ti,.int .u64 hd,.int .u64 cv,.bool st,.int .i64 sk,.int .i64 l,.slice A n c])
 go_enter Tryz.func37,Tryz.ntmps37
 go_upto_region 1 with fail;generalize ((w.alloc (.cells #[.int .i64 l,.int .i64 sk,.int .i64 sK,.int .i64 me,.int .i64 wait,.int .u64 kids,.int .i64 ep,.int .i64 ti,.int .u64 hd,.int .u64 cv,.bool st,.int .i64 sk,.int .i64 l,.slice A n c] 37)).alloc (.cells #[.int .i64 0,.int .i64 0,.int .i64 0,.int .i64 0,.int .i64 0,.int .u64 0,.int .i64 0,.int .i64 0,.int .u64 0,.int .u64 0,.bool false,.int .i64 0,.int .i64 0,.slice none 0 0] 37)) =W0 at R0 S0⊢
 cases st
 case true=>
  have cx:=bC R0.out.x;have zx:=lB R0.out.x;go_upto_region 2 with fail;clear cx zx;have cx:=bC R0.out.x;have zx:=lB R0.out.x;have cz:=bC R0.out.z;have fz:=bF R0.out.z;have zz:=lB R0.out.z;have Y:Hid ((q14 W0 (w.heap.size+1) (.int .i64 l) (.int .i64 sk) (.int .i64 sK) (.int .i64 me) (.int .i64 wait) (.int .u64 kids) (.int .i64 ep) (.int .i64 ti) (.int .u64 hd) (.int .u64 cv) (.bool true) (.int .i64 sk) (.int .i64 l) (.slice A n c)).heap[w.heap.size+1]? =some (.cells #[.int .i64 l,.int .i64 sk,.int .i64 sK,.int .i64 me,.int .i64 wait,.int .u64 kids,.int .i64 ep,.int .i64 ti,.int .u64 hd,.int .u64 cv,.bool true,.int .i64 sk,.int .i64 l,.slice A n c] 37 (0,0))):=LH (store14 R0.out.z (.int .i64 l) (.int .i64 sk) (.int .i64 sK) (.int .i64 me) (.int .i64 wait) (.int .u64 kids) (.int .i64 ep) (.int .i64 ti) (.int .u64 hd) (.int .u64 cv) (.bool true) (.int .i64 sk) (.int .i64 l) (.slice A n c));have B:Hid (Below w.heap.size w (q14 W0 (w.heap.size+1) (.int .i64 l) (.int .i64 sk) (.int .i64 sK) (.int .i64 me) (.int .i64 wait) (.int .u64 kids) (.int .i64 ep) (.int .i64 ti) (.int .u64 hd) (.int .u64 cv) (.bool true) (.int .i64 sk) (.int .i64 l) (.slice A n c))):=LH (store14_below R0.out.b (by simp) (.int .i64 l) (.int .i64 sk) (.int .i64 sK) (.int .i64 me) (.int .i64 wait) (.int .u64 kids) (.int .i64 ep) (.int .i64 ti) (.int .u64 hd) (.int .u64 cv) (.bool true) (.int .i64 sk) (.int .i64 l) (.slice A n c));have S:=LH (store14_slT R0.out.z S0.out (.int .i64 l) (.int .i64 sk) (.int .i64 sK) (.int .i64 me) (.int .i64 wait) (.int .u64 kids) (.int .i64 ep) (.int .i64 ti) (.int .u64 hd) (.int .u64 cv) (.bool true) (.int .i64 sk) (.int .i64 l) (.slice A n c));go_wp2_with fail;clear cx zx cz fz zz;rw [q14e];generalize (q14 W0 (w.heap.size+1) (.int .i64 l) (.int .i64 sk) (.int .i64 sK) (.int .i64 me) (.int .i64 wait) (.int .u64 kids) (.int .i64 ep) (.int .i64 ti) (.int .u64 hd) (.int .u64 cv) (.bool true) (.int .i64 sk) (.int .i64 l) (.slice A n c)) =wz at Y B S⊢;have ce:=bC Y.out;have fe:=bF Y.out;have ze:=lB Y.out;exact bR (v:=.tuple #[.agg #[.int .i64 l,.int .i64 sk,.int .i64 sK,.int .i64 me,.int .i64 wait,.int .u64 kids,.int .i64 ep,.int .i64 ti,.int .u64 hd,.int .u64 cv,.bool true,.int .i64 sk,.int .i64 l,.slice A n c],.int .i64 18]) (by simp only [results,Tryz.results37];go_simp) rfl (by rw [HN.out];exact⟨r,A,c,rfl,.inl ⟨rfl,rfl⟩,S.out,B.out⟩)
 case false=>
  have cx:=bC R0.out.x;have zx:=lB R0.out.x;have fx:=bF R0.out.x;go_wp2_with fail;refine(HI.out W0 S0.out).mono ?_;rintro e w1 ⟨r2,A2,c2,rfl,hto,hs2,hb1⟩;have R2:=LH ((R0.out.below hb1).below ((Below.refl w1.heap.size w1).alloc (Nat.le_refl _) (.cells #[.int .i64 sk,.int .i64 l,.slice A2 r2.length c2] 35)));have V2:=LH (heap_alloc_new w1 (.cells #[.int .i64 sk,.int .i64 l,.slice A2 r2.length c2] 35));have S2:=LH (hs2.alloc (.cells #[.int .i64 sk,.int .i64 l,.slice A2 r2.length c2] 35));have HTo:=LH hto;have hp1:w.heap.size+2≤w1.heap.size:=by have h1:=lB R0.out.z;have h2:=hb1.size;omega
  clear hb1 hs2 hto cx zx fx R0 S0 HI;go_upto_region 4 with fail;obtain⟨pv,hpv⟩ : ∃q,q=w1.heap.size:=⟨_,rfl⟩;rw [←hpv] at V2 hp1⊢;generalize w1.alloc (.cells #[.int .i64 sk,.int .i64 l,.slice A2 r2.length c2] 35) =w2 at R2 V2 S2⊢;clear hpv;have cd:=bC V2.out;have zd:=lB V2.out;have cx:=bC R2.out.x;have zx:=lB R2.out.x;have fx:=bF R2.out.x;go_upto_region 5 with fail;have R3:Hid (SnR w #[.int .i64 l,.int .i64 sk,.int .i64 sK,.int .i64 me,.int .i64 wait,.int .u64 kids,.int .i64 ep,.int .i64 ti,.int .u64 hd,.int .u64 cv,.bool false,.int .i64 sk,.int .i64 l,.slice A2 r2.length c2] (((w2.setCell ⟨w.heap.size,11,none⟩ (.int .i64 sk)).setCell ⟨w.heap.size,12,none⟩ (.int .i64 l)).setCell ⟨w.heap.size,13,none⟩ (.slice A2 r2.length c2))):=LH (((R2.out.put 11 (.int .i64 sk)).put 12 (.int .i64 l)).put 13 (.slice A2 r2.length c2));have S3:Hid (SlZ (((w2.setCell ⟨w.heap.size,11,none⟩ (.int .i64 sk)).setCell ⟨w.heap.size,12,none⟩ (.int .i64 l)).setCell ⟨w.heap.size,13,none⟩ (.slice A2 r2.length c2)) 154 encN A2 r2):=LH (((R2.out.put 11 (.int .i64 sk)).put 12 (.int .i64 l)).slT ((R2.out.put 11 (.int .i64 sk)).slT (R2.out.slT S2.out _ _) _ _) _ _);generalize (((w2.setCell ⟨w.heap.size,11,none⟩ (.int .i64 sk)).setCell ⟨w.heap.size,12,none⟩ (.int .i64 l)).setCell ⟨w.heap.size,13,none⟩ (.slice A2 r2.length c2)) =W3 at R3 S3⊢;clear cd zd cx zx fx R2 V2 S2;have cx:=bC R3.out.x;have zx:=lB R3.out.x;have cz:=bC R3.out.z;have fz:=bF R3.out.z;have zz:=lB R3.out.z;have Y:Hid ((q14 W3 (w.heap.size+1) (.int .i64 l) (.int .i64 sk) (.int .i64 sK) (.int .i64 me) (.int .i64 wait) (.int .u64 kids) (.int .i64 ep) (.int .i64 ti) (.int .u64 hd) (.int .u64 cv) (.bool false) (.int .i64 sk) (.int .i64 l) (.slice A2 r2.length c2)).heap[w.heap.size+1]? =some (.cells #[.int .i64 l,.int .i64 sk,.int .i64 sK,.int .i64 me,.int .i64 wait,.int .u64 kids,.int .i64 ep,.int .i64 ti,.int .u64 hd,.int .u64 cv,.bool false,.int .i64 sk,.int .i64 l,.slice A2 r2.length c2] 37 (0,0))):=LH (store14 R3.out.z (.int .i64 l) (.int .i64 sk) (.int .i64 sK) (.int .i64 me) (.int .i64 wait) (.int .u64 kids) (.int .i64 ep) (.int .i64 ti) (.int .u64 hd) (.int .u64 cv) (.bool false) (.int .i64 sk) (.int .i64 l) (.slice A2 r2.length c2));have B:Hid (Below w.heap.size w (q14 W3 (w.heap.size+1) (.int .i64 l) (.int .i64 sk) (.int .i64 sK) (.int .i64 me) (.int .i64 wait) (.int .u64 kids) (.int .i64 ep) (.int .i64 ti) (.int .u64 hd) (.int .u64 cv) (.bool false) (.int .i64 sk) (.int .i64 l) (.slice A2 r2.length c2))):=LH (store14_below R3.out.b (by simp) (.int .i64 l) (.int .i64 sk) (.int .i64 sK) (.int .i64 me) (.int .i64 wait) (.int .u64 kids) (.int .i64 ep) (.int .i64 ti) (.int .u64 hd) (.int .u64 cv) (.bool false) (.int .i64 sk) (.int .i64 l) (.slice A2 r2.length c2));have S:=LH (store14_slT R3.out.z S3.out (.int .i64 l) (.int .i64 sk) (.int .i64 sK) (.int .i64 me) (.int .i64 wait) (.int .u64 kids) (.int .i64 ep) (.int .i64 ti) (.int .u64 hd) (.int .u64 cv) (.bool false) (.int .i64 sk) (.int .i64 l) (.slice A2 r2.length c2));go_wp2_with fail;clear cx zx cz fz zz;rw [q14e];generalize (q14 W3 (w.heap.size+1) (.int .i64 l) (.int .i64 sk) (.int .i64 sK) (.int .i64 me) (.int .i64 wait) (.int .u64 kids) (.int .i64 ep) (.int .i64 ti) (.int .u64 hd) (.int .u64 cv) (.bool false) (.int .i64 sk) (.int .i64 l) (.slice A2 r2.length c2)) =wz at Y B S⊢;have ce:=bC Y.out;have fe:=bF Y.out;have ze:=lB Y.out;exact bR (v:=.tuple #[.agg #[.int .i64 l,.int .i64 sk,.int .i64 sK,.int .i64 me,.int .i64 wait,.int .u64 kids,.int .i64 ep,.int .i64 ti,.int .u64 hd,.int .u64 cv,.bool false,.int .i64 sk,.int .i64 l,.slice A2 r2.length c2],.int .i64 (insErr l r x y)]) (by simp only [results,Tryz.results37];go_simp) rfl (⟨r2,A2,c2,rfl,.inr ⟨rfl,HTo.out⟩,S.out,B.out⟩)
def nextS (s:Sen) :Sen:=if s.ep=1099511627776 then s else senNew s.l s.k s.kd s.p (s.ep+1)
def nextE (s:Sen) :Int:=if s.ep=1099511627776 then 21 else 0
def Next31Post (s:Sen) (A:Option Addr) (n c:Nat) (w:World) (e:Ending) (w':World) :Prop:=
 ((s.ep=1099511627776∧e=.returned (.tuple #[refV s A n c,.int .i64 21]))∨(s.ep≠1099511627776∧e=.returned (.tuple #[refV (senNew s.l s.k s.kd s.p (s.ep+1)) none 0 0,.int .i64 0])))∧Below w.heap.size w w'
theorem ref31_Next (w:World) (s:Sen) (A:Option Addr) (n c:Nat) (h0:0≤s.ep) (h1:s.ep≤1099511627776) :
 Calls Tryz.prog 39 #[refV s A n c] w (Next31Post s A n c w):=by
 obtain⟨sl,sk,sK,⟨me,kids,wait⟩,ep,ti,hd,cv,st⟩:=s;have HNw:=LH (fun W=>ref31_New W sl sk sK ⟨me,kids,wait⟩ (ep+1));unfold senNew at HNw;unfold refV refC confV at HNw;unfold refV refC;dsimp only at*;have R0:=LH (SnR.first w #[.int .i64 sl,.int .i64 sk,.int .i64 sK,.int .i64 me,.int .i64 wait,.int .u64 kids,.int .i64 ep,.int .i64 ti,.int .u64 hd,.int .u64 cv,.bool st,.int .i64 sk,.int .i64 sl,.slice A n c])
 go_enter Tryz.func39,Tryz.ntmps39
 go_upto_region 1 with fail;generalize ((w.alloc (.cells #[.int .i64 sl,.int .i64 sk,.int .i64 sK,.int .i64 me,.int .i64 wait,.int .u64 kids,.int .i64 ep,.int .i64 ti,.int .u64 hd,.int .u64 cv,.bool st,.int .i64 sk,.int .i64 sl,.slice A n c] 37)).alloc (.cells #[.int .i64 0,.int .i64 0,.int .i64 0,.int .i64 0,.int .i64 0,.int .u64 0,.int .i64 0,.int .i64 0,.int .u64 0,.int .u64 0,.bool false,.int .i64 0,.int .i64 0,.slice none 0 0] 37)) =W0 at R0⊢;have cx:=bC R0.out.x;have zx:=lB R0.out.x;by_cases h:ep=1099511627776
 case pos=>
  have hd1: (ep == 1099511627776) =true:=by simpa using h
  have HE:=LH h;clear h;go_upto_region 2 with fail;clear cx zx;have cx:=bC R0.out.x;have zx:=lB R0.out.x;have cz:=bC R0.out.z;have fz:=bF R0.out.z;have zz:=lB R0.out.z;have Y:Hid ((q14 W0 (w.heap.size+1) (.int .i64 sl) (.int .i64 sk) (.int .i64 sK) (.int .i64 me) (.int .i64 wait) (.int .u64 kids) (.int .i64 ep) (.int .i64 ti) (.int .u64 hd) (.int .u64 cv) (.bool st) (.int .i64 sk) (.int .i64 sl) (.slice A n c)).heap[w.heap.size+1]? =some (.cells #[.int .i64 sl,.int .i64 sk,.int .i64 sK,.int .i64 me,.int .i64 wait,.int .u64 kids,.int .i64 ep,.int .i64 ti,.int .u64 hd,.int .u64 cv,.bool st,.int .i64 sk,.int .i64 sl,.slice A n c] 37 (0,0))):=LH (store14 R0.out.z (.int .i64 sl) (.int .i64 sk) (.int .i64 sK) (.int .i64 me) (.int .i64 wait) (.int .u64 kids) (.int .i64 ep) (.int .i64 ti) (.int .u64 hd) (.int .u64 cv) (.bool st) (.int .i64 sk) (.int .i64 sl) (.slice A n c));have B:Hid (Below w.heap.size w (q14 W0 (w.heap.size+1) (.int .i64 sl) (.int .i64 sk) (.int .i64 sK) (.int .i64 me) (.int .i64 wait) (.int .u64 kids) (.int .i64 ep) (.int .i64 ti) (.int .u64 hd) (.int .u64 cv) (.bool st) (.int .i64 sk) (.int .i64 sl) (.slice A n c))):=LH (store14_below R0.out.b (by simp) (.int .i64 sl) (.int .i64 sk) (.int .i64 sK) (.int .i64 me) (.int .i64 wait) (.int .u64 kids) (.int .i64 ep) (.int .i64 ti) (.int .u64 hd) (.int .u64 cv) (.bool st) (.int .i64 sk) (.int .i64 sl) (.slice A n c));go_wp2_with fail;clear cx zx cz fz zz;rw [q14e];generalize (q14 W0 (w.heap.size+1) (.int .i64 sl) (.int .i64 sk) (.int .i64 sK) (.int .i64 me) (.int .i64 wait) (.int .u64 kids) (.int .i64 ep) (.int .i64 ti) (.int .u64 hd) (.int .u64 cv) (.bool st) (.int .i64 sk) (.int .i64 sl) (.slice A n c)) =wz at Y B⊢;have ce:=bC Y.out;have fe:=bF Y.out;have ze:=lB Y.out;exact bR (v:=.tuple #[.agg #[.int .i64 sl,.int .i64 sk,.int .i64 sK,.int .i64 me,.int .i64 wait,.int .u64 kids,.int .i64 ep,.int .i64 ti,.int .u64 hd,.int .u64 cv,.bool st,.int .i64 sk,.int .i64 sl,.slice A n c],.int .i64 21]) (by simp only [results,Tryz.results39];go_simp) rfl (show Next31Post _ A n c w _ _ from⟨.inl ⟨HE.out,rfl⟩,B.out⟩)
 case neg=>
  have hd1: (ep == 1099511627776) =false:=by simpa using h
  have HE:=LH h;clear h;have hw:wrap64 (ep+1) =ep+1:=by unfold wrap64;omega
  go_wp2_with fail;refine(HNw.out W0).mono ?_;rintro e w1 ⟨rfl,hb1⟩;have R1:=LH (R0.out.below hb1);clear hb1 cx zx;have cx:=bC R1.out.x;have zx:=lB R1.out.x;have cz:=bC R1.out.z;have fz:=bF R1.out.z;have zz:=lB R1.out.z;have Y:Hid ((q14 w1 (w.heap.size+1) (.int .i64 sl) (.int .i64 sk) (.int .i64 sK) (.int .i64 me) (.int .i64 wait) (.int .u64 kids) (.int .i64 (ep+1)) (.int .i64 0) (.int .u64 0) (.int .u64 ((withC 0 me:Nat) :Int)) (.bool false) (.int .i64 sk) (.int .i64 sl) (.slice none 0 0)).heap[w.heap.size+1]? =some (.cells #[.int .i64 sl,.int .i64 sk,.int .i64 sK,.int .i64 me,.int .i64 wait,.int .u64 kids,.int .i64 (ep+1),.int .i64 0,.int .u64 0,.int .u64 ((withC 0 me:Nat) :Int),.bool false,.int .i64 sk,.int .i64 sl,.slice none 0 0] 37 (0,0))):=LH (store14 R1.out.z (.int .i64 sl) (.int .i64 sk) (.int .i64 sK) (.int .i64 me) (.int .i64 wait) (.int .u64 kids) (.int .i64 (ep+1)) (.int .i64 0) (.int .u64 0) (.int .u64 ((withC 0 me:Nat) :Int)) (.bool false) (.int .i64 sk) (.int .i64 sl) (.slice none 0 0));have B:Hid (Below w.heap.size w (q14 w1 (w.heap.size+1) (.int .i64 sl) (.int .i64 sk) (.int .i64 sK) (.int .i64 me) (.int .i64 wait) (.int .u64 kids) (.int .i64 (ep+1)) (.int .i64 0) (.int .u64 0) (.int .u64 ((withC 0 me:Nat) :Int)) (.bool false) (.int .i64 sk) (.int .i64 sl) (.slice none 0 0))):=LH (store14_below R1.out.b (by simp) (.int .i64 sl) (.int .i64 sk) (.int .i64 sK) (.int .i64 me) (.int .i64 wait) (.int .u64 kids) (.int .i64 (ep+1)) (.int .i64 0) (.int .u64 0) (.int .u64 ((withC 0 me:Nat) :Int)) (.bool false) (.int .i64 sk) (.int .i64 sl) (.slice none 0 0));go_wp2_with fail;clear cx zx cz fz zz;rw [q14e];generalize (q14 w1 (w.heap.size+1) (.int .i64 sl) (.int .i64 sk) (.int .i64 sK) (.int .i64 me) (.int .i64 wait) (.int .u64 kids) (.int .i64 (ep+1)) (.int .i64 0) (.int .u64 0) (.int .u64 ((withC 0 me:Nat) :Int)) (.bool false) (.int .i64 sk) (.int .i64 sl) (.slice none 0 0)) =wz at Y B⊢;have ce:=bC Y.out;have fe:=bF Y.out;have ze:=lB Y.out;exact bR (v:=.tuple #[.agg #[.int .i64 sl,.int .i64 sk,.int .i64 sK,.int .i64 me,.int .i64 wait,.int .u64 kids,.int .i64 (ep+1),.int .i64 0,.int .u64 0,.int .u64 ((withC 0 me:Nat) :Int),.bool false,.int .i64 sk,.int .i64 sl,.slice none 0 0],.int .i64 0]) (by simp only [results,Tryz.results39];go_simp) rfl (show Next31Post _ A n c w _ _ from⟨.inr ⟨HE.out,rfl⟩,B.out⟩)
def Send31Post [Zone] (l:Nat) (s:Sen) (r:List Nd) (w:World) (e:Ending) (w':World) :Prop:=
 (s.sent=true∧(∃A c,e=.returned (.tuple #[refV s A r.length c,.string ⟨#[]⟩,.int .i64 18])∧SlZ w' 154 encN A r)∧Below w.heap.size w w')∨
 (s.sent=false∧readyS s=false∧(∃A c,e=.returned (.tuple #[refV s A r.length c,.string ⟨#[]⟩,.int .i64 22])∧SlZ w' 154 encN A r)∧Below w.heap.size w w')∨
 (s.sent=false∧readyS s=true∧(∃ps r' A c,RunTo l (sumR r / s.k) r ps r'∧e=.returned (.tuple #[refV (sentS s) A r'.length c,.string ⟨(ltrT (senL l s r')).toArray⟩,.int .i64 0])∧SlZ w' 154 encN A r')∧Below w.heap.size w w')
theorem ref31_Send [Zone] (w:World) (l:Nat) (s:Sen) (A:Option Addr) (c:Nat) (r:List Nd) (hsl:s.l=l) (hl:1≤l∧l≤48) (ho:SenOk s) (hS:SlZ w 154 encN A r) (hf:Fits l r) (hlen:r.length≤999) (hk:1≤s.k) (hk2:s.k≤1048576) :
 Calls Tryz.prog 38 #[refV s A r.length c] w (Send31Post l s r w):=by
 obtain⟨sl,sk,sK,⟨me,kids,wait⟩,ep,ti,hd,cv,st⟩:=s;have HRy:=LH (fun W=>ref31_Ready W ⟨sl,sk,sK,⟨me,kids,wait⟩,ep,ti,hd,cv,st⟩ A r.length c ho);have HRt:=LH (fun (ps:List Int) (r':List Nd) (h:RunTo l (sumR r / sk) r ps r')=>senL_right (r:=r') ho hl (run_low_len hf h).1 hk hk2 (by have:=(run_low_len hf h).2.1;omega));have HFr:=LH (fun (ps:List Int) (r':List Nd) (h:RunTo l (sumR r / sk) r ps r')=>And.intro (run_low_len hf h).1 (by have:=(run_low_len hf h).2.1;omega:r'.length≤999));have hep:=ho.e1;have hcv:cv<2^64:=by have:=ho.c;unfold rightC at this;simp only [decide_eq_true_eq] at this;omega
 obtain⟨rd,hrd⟩ : ∃b,b=readyS ⟨sl,sk,sK,⟨me,kids,wait⟩,ep,ti,hd,cv,st⟩:=⟨_,rfl⟩;rw [←hrd] at HRy;have HRd:=LH hrd;dsimp only at hk hk2 hsl hep;obtain rfl:=hsl;have HC:=LH (fun W h=>ref13_Compress W l sk A c r hl h hf (fits_ints hf hl.2) hlen hk hk2);unfold Comp13Post at HC;unfold refV refC at HRy;have HP:Hid (∀e W,Send31Post l ⟨l,sk,sK,⟨me,kids,wait⟩,ep,ti,hd,cv,st⟩ r w e W→Send31Post l ⟨l,sk,sK,⟨me,kids,wait⟩,ep,ti,hd,cv,st⟩ r w e W):=LH fun _ _ h=>h;unfold refV refC;dsimp only at*;obtain⟨n,hn⟩ : ∃n,n=r.length:=⟨_,rfl⟩;rw [←hn] at HC HRy⊢;have HN:=LH hn;have S0:=LH (show SlZ ((w.alloc (.cells #[.int .i64 l,.int .i64 sk,.int .i64 sK,.int .i64 me,.int .i64 wait,.int .u64 kids,.int .i64 ep,.int .i64 ti,.int .u64 hd,.int .u64 cv,.bool st,.int .i64 sk,.int .i64 l,.slice A n c] 37)).alloc (.cells #[.int .i64 0,.int .i64 0,.int .i64 0,.int .i64 0,.int .i64 0,.int .u64 0,.int .i64 0,.int .i64 0,.int .u64 0,.int .u64 0,.bool false,.int .i64 0,.int .i64 0,.slice none 0 0] 37)) 154 encN A r from(hS.alloc _).alloc _);clear hn hrd hS hf ho HP;have R0:=LH (SnR.first w #[.int .i64 l,.int .i64 sk,.int .i64 sK,.int .i64 me,.int .i64 wait,.int .u64 kids,.int .i64 ep,.int .i64 ti,.int .u64 hd,.int .u64 cv,.bool st,.int .i64 sk,.int .i64 l,.slice A n c])
 go_enter Tryz.func38,Tryz.ntmps38
 go_upto_region 1 with fail;generalize ((w.alloc (.cells #[.int .i64 l,.int .i64 sk,.int .i64 sK,.int .i64 me,.int .i64 wait,.int .u64 kids,.int .i64 ep,.int .i64 ti,.int .u64 hd,.int .u64 cv,.bool st,.int .i64 sk,.int .i64 l,.slice A n c] 37)).alloc (.cells #[.int .i64 0,.int .i64 0,.int .i64 0,.int .i64 0,.int .i64 0,.int .u64 0,.int .i64 0,.int .i64 0,.int .u64 0,.int .u64 0,.bool false,.int .i64 0,.int .i64 0,.slice none 0 0] 37)) =W0 at R0 S0⊢
 cases st
 case true=>
  have cx:=bC R0.out.x;have zx:=lB R0.out.x;go_upto_region 2 with fail;clear cx zx;have cx:=bC R0.out.x;have zx:=lB R0.out.x;have cz:=bC R0.out.z;have fz:=bF R0.out.z;have zz:=lB R0.out.z;have Y:Hid ((q14 W0 (w.heap.size+1) (.int .i64 l) (.int .i64 sk) (.int .i64 sK) (.int .i64 me) (.int .i64 wait) (.int .u64 kids) (.int .i64 ep) (.int .i64 ti) (.int .u64 hd) (.int .u64 cv) (.bool true) (.int .i64 sk) (.int .i64 l) (.slice A n c)).heap[w.heap.size+1]? =some (.cells #[.int .i64 l,.int .i64 sk,.int .i64 sK,.int .i64 me,.int .i64 wait,.int .u64 kids,.int .i64 ep,.int .i64 ti,.int .u64 hd,.int .u64 cv,.bool true,.int .i64 sk,.int .i64 l,.slice A n c] 37 (0,0))):=LH (store14 R0.out.z (.int .i64 l) (.int .i64 sk) (.int .i64 sK) (.int .i64 me) (.int .i64 wait) (.int .u64 kids) (.int .i64 ep) (.int .i64 ti) (.int .u64 hd) (.int .u64 cv) (.bool true) (.int .i64 sk) (.int .i64 l) (.slice A n c));have B:Hid (Below w.heap.size w (q14 W0 (w.heap.size+1) (.int .i64 l) (.int .i64 sk) (.int .i64 sK) (.int .i64 me) (.int .i64 wait) (.int .u64 kids) (.int .i64 ep) (.int .i64 ti) (.int .u64 hd) (.int .u64 cv) (.bool true) (.int .i64 sk) (.int .i64 l) (.slice A n c))):=LH (store14_below R0.out.b (by simp) (.int .i64 l) (.int .i64 sk) (.int .i64 sK) (.int .i64 me) (.int .i64 wait) (.int .u64 kids) (.int .i64 ep) (.int .i64 ti) (.int .u64 hd) (.int .u64 cv) (.bool true) (.int .i64 sk) (.int .i64 l) (.slice A n c));have S:=LH (store14_slT R0.out.z S0.out (.int .i64 l) (.int .i64 sk) (.int .i64 sK) (.int .i64 me) (.int .i64 wait) (.int .u64 kids) (.int .i64 ep) (.int .i64 ti) (.int .u64 hd) (.int .u64 cv) (.bool true) (.int .i64 sk) (.int .i64 l) (.slice A n c));go_wp2_with fail;clear cx zx cz fz zz;rw [q14e];generalize (q14 W0 (w.heap.size+1) (.int .i64 l) (.int .i64 sk) (.int .i64 sK) (.int .i64 me) (.int .i64 wait) (.int .u64 kids) (.int .i64 ep) (.int .i64 ti) (.int .u64 hd) (.int .u64 cv) (.bool true) (.int .i64 sk) (.int .i64 l) (.slice A n c)) =wz at Y B S⊢;have ce:=bC Y.out;have fe:=bF Y.out;have ze:=lB Y.out;exact bR (v:=.tuple #[.agg #[.int .i64 l,.int .i64 sk,.int .i64 sK,.int .i64 me,.int .i64 wait,.int .u64 kids,.int .i64 ep,.int .i64 ti,.int .u64 hd,.int .u64 cv,.bool true,.int .i64 sk,.int .i64 l,.slice A n c],.string ⟨#[]⟩,.int .i64 18]) (by simp only [results,Tryz.results38];go_simp) rfl (show Send31Post l ⟨l,sk,sK,⟨me,kids,wait⟩,ep,ti,hd,cv,true⟩ r w _ _ by rw [HN.out];exact .inl ⟨rfl,⟨A,c,rfl,S.out⟩,B.out⟩)
 case false=>
  have cx:=bC R0.out.x;have zx:=lB R0.out.x
  cases rd
  case false=>
   go_wp2_with fail;refine(HRy.out W0).mono ?_;rintro e w1 ⟨rfl,hb1⟩;have R1:=LH (R0.out.below hb1);have S1:=LH (S0.out.below hb1);clear hb1 cx zx;have cx:=bC R1.out.x;have zx:=lB R1.out.x;have cz:=bC R1.out.z;have fz:=bF R1.out.z;have zz:=lB R1.out.z;have Y:Hid ((q14 w1 (w.heap.size+1) (.int .i64 l) (.int .i64 sk) (.int .i64 sK) (.int .i64 me) (.int .i64 wait) (.int .u64 kids) (.int .i64 ep) (.int .i64 ti) (.int .u64 hd) (.int .u64 cv) (.bool false) (.int .i64 sk) (.int .i64 l) (.slice A n c)).heap[w.heap.size+1]? =some (.cells #[.int .i64 l,.int .i64 sk,.int .i64 sK,.int .i64 me,.int .i64 wait,.int .u64 kids,.int .i64 ep,.int .i64 ti,.int .u64 hd,.int .u64 cv,.bool false,.int .i64 sk,.int .i64 l,.slice A n c] 37 (0,0))):=LH (store14 R1.out.z (.int .i64 l) (.int .i64 sk) (.int .i64 sK) (.int .i64 me) (.int .i64 wait) (.int .u64 kids) (.int .i64 ep) (.int .i64 ti) (.int .u64 hd) (.int .u64 cv) (.bool false) (.int .i64 sk) (.int .i64 l) (.slice A n c));have B:Hid (Below w.heap.size w (q14 w1 (w.heap.size+1) (.int .i64 l) (.int .i64 sk) (.int .i64 sK) (.int .i64 me) (.int .i64 wait) (.int .u64 kids) (.int .i64 ep) (.int .i64 ti) (.int .u64 hd) (.int .u64 cv) (.bool false) (.int .i64 sk) (.int .i64 l) (.slice A n c))):=LH (store14_below R1.out.b (by simp) (.int .i64 l) (.int .i64 sk) (.int .i64 sK) (.int .i64 me) (.int .i64 wait) (.int .u64 kids) (.int .i64 ep) (.int .i64 ti) (.int .u64 hd) (.int .u64 cv) (.bool false) (.int .i64 sk) (.int .i64 l) (.slice A n c));have S:=LH (store14_slT R1.out.z S1.out (.int .i64 l) (.int .i64 sk) (.int .i64 sK) (.int .i64 me) (.int .i64 wait) (.int .u64 kids) (.int .i64 ep) (.int .i64 ti) (.int .u64 hd) (.int .u64 cv) (.bool false) (.int .i64 sk) (.int .i64 l) (.slice A n c));go_wp2_with fail;clear cx zx cz fz zz;rw [q14e];generalize (q14 w1 (w.heap.size+1) (.int .i64 l) (.int .i64 sk) (.int .i64 sK) (.int .i64 me) (.int .i64 wait) (.int .u64 kids) (.int .i64 ep) (.int .i64 ti) (.int .u64 hd) (.int .u64 cv) (.bool false) (.int .i64 sk) (.int .i64 l) (.slice A n c)) =wz at Y B S⊢;have ce:=bC Y.out;have fe:=bF Y.out;have ze:=lB Y.out;exact bR (v:=.tuple #[.agg #[.int .i64 l,.int .i64 sk,.int .i64 sK,.int .i64 me,.int .i64 wait,.int .u64 kids,.int .i64 ep,.int .i64 ti,.int .u64 hd,.int .u64 cv,.bool false,.int .i64 sk,.int .i64 l,.slice A n c],.string ⟨#[]⟩,.int .i64 22]) (by simp only [results,Tryz.results38];go_simp) rfl (show Send31Post l ⟨l,sk,sK,⟨me,kids,wait⟩,ep,ti,hd,cv,false⟩ r w _ _ by rw [HN.out];exact .inr (.inl ⟨rfl,HRd.out.symm,⟨A,c,rfl,S.out⟩,B.out⟩))
  case true=>
   go_wp2_with fail;refine(HRy.out W0).mono ?_;rintro e w1 ⟨rfl,hb1⟩;have R1:=LH (R0.out.below hb1);have S1:=LH (S0.out.below hb1);clear hb1 cx zx;have cx:=bC R1.out.x;have zx:=lB R1.out.x;have fx:=bF R1.out.x;go_wp2_with fail;refine(HC.out w1 S1.out).mono ?_;rintro e w2 ⟨ps,r2,A2,c2,rfl,hrun,hs2,hb2⟩;have R2:=LH (R1.out.below hb2);have S2:=LH hs2;have HRn:=LH hrun;clear hb2 hs2 hrun cx zx fx R0 R1 S0 S1 HC HRy;have cx:=bC R2.out.x;have zx:=lB R2.out.x;have fx:=bF R2.out.x;go_upto_region 6 with fail;have R3:Hid (SnR w #[.int .i64 l,.int .i64 sk,.int .i64 sK,.int .i64 me,.int .i64 wait,.int .u64 kids,.int .i64 ep,.int .i64 ti,.int .u64 hd,.int .u64 cv,.bool false,.int .i64 sk,.int .i64 l,.slice A2 r2.length c2] (((w2.setCell ⟨w.heap.size,11,none⟩ (.int .i64 sk)).setCell ⟨w.heap.size,12,none⟩ (.int .i64 l)).setCell ⟨w.heap.size,13,none⟩ (.slice A2 r2.length c2))):=LH (((R2.out.put 11 (.int .i64 sk)).put 12 (.int .i64 l)).put 13 (.slice A2 r2.length c2));have S3:Hid (SlZ (((w2.setCell ⟨w.heap.size,11,none⟩ (.int .i64 sk)).setCell ⟨w.heap.size,12,none⟩ (.int .i64 l)).setCell ⟨w.heap.size,13,none⟩ (.slice A2 r2.length c2)) 154 encN A2 r2):=LH (((R2.out.put 11 (.int .i64 sk)).put 12 (.int .i64 l)).slT ((R2.out.put 11 (.int .i64 sk)).slT (R2.out.slT S2.out _ _) _ _) _ _);generalize (((w2.setCell ⟨w.heap.size,11,none⟩ (.int .i64 sk)).setCell ⟨w.heap.size,12,none⟩ (.int .i64 l)).setCell ⟨w.heap.size,13,none⟩ (.slice A2 r2.length c2)) =W3 at R3 S3⊢;clear cx zx fx R2 S2;have HF2:=LH (HFr.out ps r2 HRn.out);have HR2:=LH (HRt.out ps r2 HRn.out);unfold senL at HR2;dsimp only at HR2;have HEn:=LH (fun W h=>ref24_Encode W l sk A2 c2 r2 hl h HF2.out.1 (by have:=HF2.out.2;omega) hk hk2);have HLe:=LH (fun W=>ref29_Encode W ep me cv (wireT l sk r2) hcv (by omega));have he29:enc29 ep me cv (wireT l sk r2) = (ltrT ⟨ep,me,cv,wireT l sk r2⟩,0):=by unfold enc29;rw [if_pos HR2.out]
   rw [he29] at HLe;clear he29;have HT:Hid (ltrT (senL l ⟨l,sk,sK,⟨me,kids,wait⟩,ep,ti,hd,cv,false⟩ r2) =ltrT ⟨ep,me,cv,wireT l sk r2⟩):=LH rfl;generalize ltrT ⟨ep,me,cv,wireT l sk r2⟩ =T at HLe HT;generalize wireT l sk r2=Y at HEn HLe;have cx:=bC R3.out.x;have zx:=lB R3.out.x;refine rX (by kernel_rfl) (by kernel_rfl) ?_
   repeat (go_big_quiet_step (first
    | (go_at_call 71;exact quiet_ext (HEn.out _ ((S3.out.below (ext_below _ _)).sl)))
    | (go_at_call 70;exact quiet_ext (HLe.out _))))
   refine wpQuiet_nil ?_;intro w4 hb4;replace hb4:=bX hb4;have R4:=LH (R3.out.below hb4);have S4:=LH (S3.out.below hb4);clear hb4 cx zx R3 S3 HEn HLe;have cx:=bC R4.out.x;have zx:=lB R4.out.x;have fx:=bF R4.out.x;go_upto_region 10 with fail;have R5:Hid (SnR w #[.int .i64 l,.int .i64 sk,.int .i64 sK,.int .i64 me,.int .i64 wait,.int .u64 kids,.int .i64 ep,.int .i64 ti,.int .u64 hd,.int .u64 cv,.bool true,.int .i64 sk,.int .i64 l,.slice A2 r2.length c2] (w4.setCell ⟨w.heap.size,10,none⟩ (.bool true))):=LH (R4.out.put 10 (.bool true));have S5:=LH (R4.out.slT S4.out 10 (.bool true));generalize w4.setCell ⟨w.heap.size,10,none⟩ (.bool true) =W5 at R5 S5⊢;clear cx zx fx R4 S4;have cx:=bC R5.out.x;have zx:=lB R5.out.x;have cz:=bC R5.out.z;have fz:=bF R5.out.z;have zz:=lB R5.out.z;have Y:Hid ((q14 W5 (w.heap.size+1) (.int .i64 l) (.int .i64 sk) (.int .i64 sK) (.int .i64 me) (.int .i64 wait) (.int .u64 kids) (.int .i64 ep) (.int .i64 ti) (.int .u64 hd) (.int .u64 cv) (.bool true) (.int .i64 sk) (.int .i64 l) (.slice A2 r2.length c2)).heap[w.heap.size+1]? =some (.cells #[.int .i64 l,.int .i64 sk,.int .i64 sK,.int .i64 me,.int .i64 wait,.int .u64 kids,.int .i64 ep,.int .i64 ti,.int .u64 hd,.int .u64 cv,.bool true,.int .i64 sk,.int .i64 l,.slice A2 r2.length c2] 37 (0,0))):=LH (store14 R5.out.z (.int .i64 l) (.int .i64 sk) (.int .i64 sK) (.int .i64 me) (.int .i64 wait) (.int .u64 kids) (.int .i64 ep) (.int .i64 ti) (.int .u64 hd) (.int .u64 cv) (.bool true) (.int .i64 sk) (.int .i64 l) (.slice A2 r2.length c2));have B:Hid (Below w.heap.size w (q14 W5 (w.heap.size+1) (.int .i64 l) (.int .i64 sk) (.int .i64 sK) (.int .i64 me) (.int .i64 wait) (.int .u64 kids) (.int .i64 ep) (.int .i64 ti) (.int .u64 hd) (.int .u64 cv) (.bool true) (.int .i64 sk) (.int .i64 l) (.slice A2 r2.length c2))):=LH (store14_below R5.out.b (by simp) (.int .i64 l) (.int .i64 sk) (.int .i64 sK) (.int .i64 me) (.int .i64 wait) (.int .u64 kids) (.int .i64 ep) (.int .i64 ti) (.int .u64 hd) (.int .u64 cv) (.bool true) (.int .i64 sk) (.int .i64 l) (.slice A2 r2.length c2));have S:=LH (store14_slT R5.out.z S5.out (.int .i64 l) (.int .i64 sk) (.int .i64 sK) (.int .i64 me) (.int .i64 wait) (.int .u64 kids) (.int .i64 ep) (.int .i64 ti) (.int .u64 hd) (.int .u64 cv) (.bool true) (.int .i64 sk) (.int .i64 l) (.slice A2 r2.length c2));go_wp2_with fail;clear cx zx cz fz zz;rw [q14e];generalize (q14 W5 (w.heap.size+1) (.int .i64 l) (.int .i64 sk) (.int .i64 sK) (.int .i64 me) (.int .i64 wait) (.int .u64 kids) (.int .i64 ep) (.int .i64 ti) (.int .u64 hd) (.int .u64 cv) (.bool true) (.int .i64 sk) (.int .i64 l) (.slice A2 r2.length c2)) =wz at Y B S⊢;have ce:=bC Y.out;have fe:=bF Y.out;have ze:=lB Y.out;exact bR (v:=.tuple #[.agg #[.int .i64 l,.int .i64 sk,.int .i64 sK,.int .i64 me,.int .i64 wait,.int .u64 kids,.int .i64 ep,.int .i64 ti,.int .u64 hd,.int .u64 cv,.bool true,.int .i64 sk,.int .i64 l,.slice A2 r2.length c2],.string ⟨T.toArray⟩,.int .i64 0]) (by simp only [results,Tryz.results38];go_simp) rfl (show Send31Post l ⟨l,sk,sK,⟨me,kids,wait⟩,ep,ti,hd,cv,false⟩ r w _ _ from .inr (.inr ⟨rfl,HRd.out.symm,⟨ps,r2,A2,c2,HRn.out,by rw [HT.out];rfl,S.out⟩,B.out⟩))
def CntPost (ids:List Int) (s:List UInt8) (n:Int) (w:World) (e:Ending) (w':World) :Prop:=
 ∃A c,e=.returned (.tuple #[.slice A (cntF ids s n []).1.length c,.string ⟨(cntF ids s n []).2.1.toArray⟩,.int .i64 (cntF ids s n []).2.2.2])∧Own w' w.heap.size 154 encN (.slice A (cntF ids s n []).1.length c) (cntF ids s n []).1∧Below w.heap.size w w'
theorem cntF_step (id:Int) (ids:List Int) (s:List UInt8) (left:Int) (out:List Nd) :cntF (id :: ids) s left out=
 if (getB s).2.2≠0 then ([], [],0,(getB s).2.2) else if (getB s).1=0∨left< ((getB s).1:Int) then ([], [],0,10) else cntF ids (s.drop (getB s).2.1) (left - ((getB s).1:Int)) (out ++ [(id,((getB s).1:Int))]):=rfl
theorem CntPost.of {ids:List Int} {s:List UInt8} {n:Int} {w w':World} {A:Option Addr} {c:Nat} {R:List Nd×List UInt8×Int×Int} (h:R=cntF ids s n []) (ho:Own w' w.heap.size 154 encN (.slice A R.1.length c) R.1) (hb:Below w.heap.size w w') :
 CntPost ids s n w (.returned (.tuple #[.slice A R.1.length c,.string ⟨R.2.1.toArray⟩,.int .i64 R.2.2.2])) w':=by
 subst h;exact⟨A,c,rfl,ho,hb⟩
theorem CntPost.no {ids:List Int} {s:List UInt8} {n:Int} {w w':World} {er:Int} (h:cntF ids s n [] = ([], [],0,er)) (hb:Below w.heap.size w w') :
 CntPost ids s n w (.returned (.tuple #[.slice none 0 0,.string ⟨#[]⟩,.int .i64 er])) w':=CntPost.of (A:=none) (c:=0) h.symm (Own.nil _ _ _ _) hb
theorem ref24_counts (w:World) (A:Option Addr) (c:Nat) (ids:List Int) (s:List UInt8) (n:Int) (hS:Sl w w.heap.size encZ A ids) (hl:ids.length≤8388608) (hs:s.length≤1000000000) (hn0:0≤n) (hn:n≤72057594037927935) :
 Calls Tryz.prog 96 #[.slice A ids.length c,.string ⟨s.toArray⟩,.int .i64 n] w (CntPost ids s n w):=by
 have HGt:=LH (fun W (t:List UInt8) (h:t.length≤1000000000)=>ref22_Get W t h);have HO:=LH hS;clear hS
 go_enter Tryz.func96,Tryz.ntmps96
 go_wp2_with fail
 go_loopw [1,9,10,11] (fun tv u mv i wr=>∃(q:Nat) (t:List UInt8) (sum:Int) (out:List Nd),i=.int .i64 q∧q≤ids.length∧tv=.string ⟨t.toArray⟩∧t.length≤s.length∧mv=.int .i64 sum∧0≤sum∧sum≤n∧out.length=q∧cntF (ids.drop q) t (n - sum) out=cntF ids s n []∧Own wr w.heap.size 154 encN u out∧Below w.heap.size w wr) (fun _ _ _ i _=>ids.length - (intOf i).toNat)
 case atStart=>exact⟨0,s,0, [],rfl,Nat.zero_le _,rfl,Nat.le_refl _,rfl,Int.le_refl _,hn0,rfl,by simp,Own.nil _ _ _ _,Below.refl _ _⟩
 case round=>
  obtain⟨q,t,sum,out,rfl,hq,rfl,ht,rfl,hs0,hsn,hol,hF,ho,hB⟩:=hrel;obtain⟨Ao,co,rfl,_⟩:=ho.form;have HOu:=LH ho;have HB:=LH hB;have HR:=LH (HO.out.below hB);have sz:=hB.size;have HL:=LH hol;have HF:=LH hF;clear ho hB hol hF;by_cases hlt:q<ids.length
  ·have hqi: (q:Int) < (ids.length:Int):=by omega
   have hd:ids.drop q=ids[q] :: ids.drop (q+1):=List.drop_eq_getElem_cons hlt;rw [hd,cntF_step] at HF;obtain⟨b,off,rfl,hb,hc⟩:=HR.out.at_ hlt;have d0:=hc 0 (.int .i64 ids[q]) rfl;simp only [Nat.mul_one,Nat.add_zero] at d0;have zb:=cell_lt d0;generalize ids[q] =id at HF d0;have HG1:=LH (HGt.out wr t (by omega));unfold GetPost at HG1;have HBd:=LH (getB_bounds t);clear hd hc;generalize getB t=G at HF HG1 HBd;obtain⟨m,z,er⟩:=G;dsimp only at HF HG1 HBd;go_wp2_with fail;refine HG1.out.mono ?_;rintro e w2 ⟨rfl,hb2⟩;have HO2:=LH (HOu.out.below hb2);have HB2:=LH (HB.out.trans (hb2.mono sz));have d2:=(hb2.cell (p:=⟨b,off+q,none⟩) zb).trans d0;have zb2:=cell_lt d2;have sz2:=hb2.size;clear hb2 HG1 HOu d0 zb;by_cases h1:er=0
   ·subst h1
    rw [if_neg (by simp)] at HF;have hm9:=HBd.out.1;have hz:=HBd.out.2.2.1;by_cases h0:m=0
    ·subst h0
     rw [if_pos (.inl rfl)] at HF;go_wp2_with fail;exact bR (v:=.tuple #[.slice none 0 0,.string ⟨#[]⟩,.int .i64 10]) (by simp only [results,Tryz.results96];go_simp) rfl (CntPost.no HF.out.symm HB2.out)
    ·have h0i: ((m:Int) == 0) =false:=by simp;omega
     have hwl:wrap64 (n - sum) =n - sum:=by unfold wrap64;omega
     by_cases h3:n - sum< (m:Int)
     ·rw [if_pos (.inr h3)] at HF
      have h3i:decide (n - sum< (m:Int)) =true:=by simpa using h3
      go_wp2_with fail;exact bR (v:=.tuple #[.slice none 0 0,.string ⟨#[]⟩,.int .i64 10]) (by simp only [results,Tryz.results96];go_simp) rfl (CntPost.no HF.out.symm HB2.out)
     ·rw [if_neg (by omega)] at HF
      have h3i:decide (n - sum< (m:Int)) =false:=by simpa using h3
      obtain⟨s2,hs2⟩ : ∃x:Int,x=sum+ (m:Int):=⟨_,rfl⟩;rw [show n - sum - (m:Int) =n - s2 by omega] at HF;have hw1:sum+ (m:Int) =s2:=by omega
      have hsb:0≤s2∧s2≤n:=by omega
      have htd:=text_drop t z;have htl: (t.drop z).length≤s.length:=by rw [List.length_drop];omega
      generalize t.drop z=t2 at HF htd htl;have hol:out.length≤8388608:=by rw [HL.out];omega
      clear hs2 h3;go_wp2_with ((at_builtin;go_loud (refine wpList_push tyN rfl _ _ rfl encN w2 w.heap.size (.slice Ao out.length co) out rfl HO2.out (id,(m:Int)) (by go_simp) rfl ?c1 ?c2 ?c3 ?c4)))
      case c1=>omega
      case c2=>unfold maxLen;omega
      case c3=>omega
      case c4=>
       intro v' w' ho' _ _ _ hb' _;have HO3:=LH ho';have HB3:=LH (HB2.out.trans hb');have hsz:=hb'.size;clear ho' hb';go_wp2_with fail;go_roundw
       case rel=>exact⟨q+1,t2,s2,out ++ [(id,(m:Int))],by go_num,by omega,rfl,htl,rfl,hsb.1,hsb.2,by simp [HL.out],HF.out,HO3.out,HB3.out⟩
       case measure=>simp [intOf];omega
   ·rw [if_pos h1] at HF
    have h1i: (er == 0) =false:=by simpa using h1
    go_wp2_with fail;exact bR (v:=.tuple #[.slice none 0 0,.string ⟨#[]⟩,.int .i64 er]) (by simp only [results,Tryz.results96];go_simp) rfl (CntPost.no HF.out.symm HB2.out)
  ·obtain rfl:q=ids.length:=by omega
   have hqi:decide ((ids.length:Int) < (ids.length:Int)) =false:=by simp
   rw [List.drop_length] at HF;have HR:=LH (show (out,t,n - sum,(0:Int)) =cntF ids s n [] from HF.out);clear HF;go_wp2_with fail;exact bR (v:=.tuple #[.slice Ao out.length co,.string ⟨t.toArray⟩,.int .i64 0]) (by simp only [results,Tryz.results96];go_simp) rfl (CntPost.of (R:=(out,t,n - sum,0)) HR.out HOu.out HB.out)
def FallsPost (s:List UInt8) (most:Int) (w:World) (e:Ending) (w':World) :Prop:=
 ∃A c,e=.returned (.tuple #[.slice A (fallB s most).1.length c,.int .i64 (fallB s most).2.1,.int .i64 (fallB s most).2.2])∧Own w' w.heap.size 3 encZ (.slice A (fallB s most).1.length c) (fallB s most).1∧Below w.heap.size w w'
theorem fallF_step (s:List UInt8) (m last a:Nat) (out:List Int) :fallF s (m+1) last a out=
 if (getB (s.drop a)).2.2≠0 then ([],0,(getB (s.drop a)).2.2) else if (getB (s.drop a)).1=0∨9223372036854775807 - last< (getB (s.drop a)).1 then ([],0,10) else fallF s m (last+ (getB (s.drop a)).1) (a+ (getB (s.drop a)).2.1) (out ++ [((last+ (getB (s.drop a)).1:Nat) :Int)]):=rfl
theorem fallB_at (s:List UInt8) (most:Int) :fallB s most=if (getB s).2.2≠0 then ([],0,(getB s).2.2) else if most< ((getB s).1:Int) then ([],0,13) else fallF s (getB s).1 0 (getB s).2.1 []:=rfl
theorem FallsPost.of {s:List UInt8} {most:Int} {w w':World} {A:Option Addr} {c:Nat} {R:List Int×Nat×Int} (h:R=fallB s most) (ho:Own w' w.heap.size 3 encZ (.slice A R.1.length c) R.1) (hb:Below w.heap.size w w') :
 FallsPost s most w (.returned (.tuple #[.slice A R.1.length c,.int .i64 R.2.1,.int .i64 R.2.2])) w':=by
 subst h;exact⟨A,c,rfl,ho,hb⟩
theorem FallsPost.no {s:List UInt8} {most:Int} {w w':World} {er:Int} (h:fallB s most= ([],0,er)) (hb:Below w.heap.size w w') :
 FallsPost s most w (.returned (.tuple #[.slice none 0 0,.int .i64 0,.int .i64 er])) w':=FallsPost.of (A:=none) (c:=0) h.symm (Own.nil _ _ _ _) hb
theorem ref22_Falls (w:World) (s:List UInt8) (most:Int) (hs:s.length≤1000000000) (hm:most≤67108800) (hm0: -9223372036854775808≤most) :
 Calls Tryz.prog 94 #[.string ⟨s.toArray⟩,.int .i64 most] w (FallsPost s most w):=by
 have HGt:=LH (fun W (t:List UInt8) (h:t.length≤1000000000)=>ref22_Get W t h);have HBd:=LH (getB_bounds s);have HF:=LH (fallB_at s most);have HG0:=LH (HGt.out w s hs);unfold GetPost at HG0;generalize getB s=G at HG0 HBd HF;obtain⟨many,a0,e0⟩:=G;dsimp only at HG0 HBd HF
 go_enter Tryz.func94,Tryz.ntmps94
 go_wp2_with fail;refine HG0.out.mono ?_;rintro e w1 ⟨rfl,hb1⟩;have HB1:=LH hb1;clear hb1;by_cases h1:e0=0
 ·subst h1
  have HF1:Hid (fallB s most=if most< (many:Int) then ([],0,13) else fallF s many 0 a0 []):=LH (by rw [HF.out,if_neg (by simp)]);clear HF;by_cases h2:most< (many:Int)
  ·have HE:Hid (fallB s most= ([],0,13)):=LH (by rw [HF1.out,if_pos h2])
   go_wp2_with fail;exact bR (v:=.tuple #[.slice none 0 0,.int .i64 0,.int .i64 13]) (by simp only [results,Tryz.results94];go_simp) rfl (FallsPost.no HE.out HB1.out)
  ·have HE:Hid (fallF s many 0 a0 [] =fallB s most):=LH (by rw [HF1.out,if_neg h2])
   have h2i:decide (most< (many:Int)) =false:=by simpa using h2
   have ha0:a0≤s.length:=HBd.out.2.2.1;have hmy:many≤67108800:=by omega
   clear HF1 HBd HG0;go_wp2_with fail
   go_loopw [8,10,11,12] (fun av u lv i wr=>∃(q a last:Nat) (out:List Int),i=.int .i64 q∧q≤many∧av=.int .i64 a∧a≤s.length∧lv=.int .i64 last∧last≤9223372036854775807∧out.length=q∧fallF s (many - q) last a out=fallB s most∧Own wr w.heap.size 3 encZ u out∧Below w.heap.size w wr) (fun _ _ _ i _=>many - (intOf i).toNat)
   case atStart=>exact⟨0,a0,0, [],rfl,Nat.zero_le _,rfl,ha0,rfl,by omega,rfl,HE.out,Own.nil _ _ _ _,HB1.out⟩
   case round=>
    obtain⟨q,a,last,out,rfl,hq,rfl,ha,rfl,hla,hol,hF,ho,hB⟩:=hrel;obtain⟨A,co,rfl,_⟩:=ho.form;have HO:=LH ho;have HB:=LH hB;have sz:=hB.size;have HL:=LH hol;have HF:=LH hF;clear ho hB hol hF;by_cases hlt:q<many
    ·have hqi: (q:Int) < (many:Int):=by omega
     obtain⟨m,hmq⟩ : ∃m,many - q=m+1:=⟨many - q - 1,by omega⟩;rw [hmq,fallF_step] at HF;have HMq:=LH hmq;have htd:=text_drop s a;have hdl: (s.drop a).length=s.length - a:=by simp
     have HG1:=LH (HGt.out wr (s.drop a) (by omega));unfold GetPost at HG1;have HBd:=LH (getB_bounds (s.drop a));rw [hdl] at HBd;clear hmq hdl;generalize getB (s.drop a) =G at HF HG1 HBd;obtain⟨n,z,er⟩:=G;dsimp only at HF HG1 HBd;go_wp2_with fail;refine HG1.out.mono ?_;rintro e w2 ⟨rfl,hb2⟩;have HO2:=LH (HO.out.below hb2);have HB2:=LH (HB.out.trans (hb2.mono sz));have sz2:=hb2.size;clear hb2 HG1 HO;by_cases h1:er=0
     ·subst h1
      rw [if_neg (by simp)] at HF;have hn9:=HBd.out.1;have hz:=HBd.out.2.2.1;by_cases h0:n=0
      ·subst h0
       rw [if_pos (.inl rfl)] at HF;go_wp2_with fail;exact bR (v:=.tuple #[.slice none 0 0,.int .i64 0,.int .i64 10]) (by simp only [results,Tryz.results94];go_simp) rfl (FallsPost.no HF.out.symm HB2.out)
      ·have h0i: ((n:Int) == 0) =false:=by simp;omega
       have hwl:wrap64 (9223372036854775807 - (last:Int)) =9223372036854775807 - (last:Int):=by unfold wrap64;omega
       by_cases h3:9223372036854775807 - last<n
       ·rw [if_pos (.inr h3)] at HF
        have h3i:decide (9223372036854775807 - (last:Int) < (n:Int)) =true:=by simp;omega
        go_wp2_with fail;exact bR (v:=.tuple #[.slice none 0 0,.int .i64 0,.int .i64 10]) (by simp only [results,Tryz.results94];go_simp) rfl (FallsPost.no HF.out.symm HB2.out)
       ·rw [if_neg (by omega)] at HF
        have h3i:decide (9223372036854775807 - (last:Int) < (n:Int)) =false:=by simp;omega
        obtain⟨nx,hnx⟩ : ∃x:Nat,x=last+n:=⟨_,rfl⟩;obtain⟨ax,hax⟩ : ∃x:Nat,x=a+z:=⟨_,rfl⟩;rw [←hnx,←hax] at HF;have hw1: (last:Int) + (n:Int) = (nx:Int):=by omega
        have hw2: (a:Int) + (z:Int) = (ax:Int):=by omega
        have hxs:ax≤s.length:=by omega
        have hnx9:nx≤9223372036854775807:=by omega
        have hol:out.length≤67108800:=by rw [HL.out];omega
        clear hnx hax;go_wp2_with ((at_builtin;go_loud (refine wpList_push tyZ rfl _ _ rfl encZ w2 w.heap.size (.slice A out.length co) out rfl HO2.out (nx:Int) (by go_simp) (by simp [encZ,hw1]) ?c1 ?c2 ?c3 ?c4)))
        case c1=>omega
        case c2=>unfold maxLen;omega
        case c3=>omega
        case c4=>
         intro v' w' ho' _ _ _ hb' _;have HO3:=LH ho';have HB3:=LH (HB2.out.trans hb');have hsz:=hb'.size;clear ho' hb';go_wp2_with fail;go_roundw
         case rel=>exact⟨q+1,ax,nx,out ++ [(nx:Int)],by go_num,by omega,rfl,hxs,rfl,hnx9,by simp [HL.out],by rw [show many - (q+1) =m by have:=HMq.out;omega];exact HF.out,HO3.out,HB3.out⟩
         case measure=>simp [intOf];omega
     ·rw [if_pos h1] at HF
      have h1i: (er == 0) =false:=by simpa using h1
      go_wp2_with fail;exact bR (v:=.tuple #[.slice none 0 0,.int .i64 0,.int .i64 er]) (by simp only [results,Tryz.results94];go_simp) rfl (FallsPost.no HF.out.symm HB2.out)
    ·obtain rfl:q=many:=by omega
     have hqi:decide ((q:Int) < (q:Int)) =false:=by simp
     rw [Nat.sub_self] at HF;have HR:=LH (show (out,a,(0:Int)) =fallB s most from HF.out);clear HF;go_wp2_with fail;exact bR (v:=.tuple #[.slice A out.length co,.int .i64 a,.int .i64 0]) (by simp only [results,Tryz.results94];go_simp) rfl (FallsPost.of (R:=(out,a,0)) HR.out HO.out HB.out)
 ·have HE:Hid (fallB s most= ([],0,e0)):=LH (by rw [HF.out,if_pos h1])
  have h1i: (e0 == 0) =false:=by simpa using h1
  go_wp2_with fail;exact bR (v:=.tuple #[.slice none 0 0,.int .i64 0,.int .i64 e0]) (by simp only [results,Tryz.results94];go_simp) rfl (FallsPost.no HE.out HB1.out)
def RdPost [Zone] (s:List UInt8) (w:World) (e:Ending) (w':World) :Prop:=
 ∃A c,e=.returned (.tuple #[.agg #[.int .i64 (readW s).1.2.1,.int .i64 (readW s).1.1,.slice A (readW s).1.2.2.2.length c],.int .i64 (readW s).2])∧SlZ w' 154 encN A (readW s).1.2.2.2∧Below w.heap.size w w'
theorem RdPost.no [Zone] {s:List UInt8} {w w':World} {er:Int} (h:readW s=noRd er) (hz:Zone.n≤w.heap.size) (hb:Below w.heap.size w w') :RdPost s w (.returned (.tuple #[.agg #[.int .i64 0,.int .i64 0,.slice none 0 0],.int .i64 er])) w':=by
 unfold RdPost;rw [h];exact⟨none,0,rfl,.nil (Nat.le_trans hz hb.size),hb⟩
theorem RdPost.ok [Zone] {s:List UInt8} {w w':World} {l k n:Nat} {r:List Nd} {A:Option Addr} {c:Nat} (h:readW s= ((l,(k:Int),(n:Int),r),0)) (hs:SlZ w' 154 encN A r) (hb:Below w.heap.size w w') :RdPost s w (.returned (.tuple #[.agg #[.int .i64 k,.int .i64 l,.slice A r.length c],.int .i64 0])) w':=by
 unfold RdPost;rw [h];exact⟨A,c,rfl,hs,hb⟩
structure RdR (w:World) (W:World) :Prop where
 x:W.heap[w.heap.size]? =some (.cells #[.int .i64 0,.int .i64 0,.slice none 0 0] 35 (0,0))
 y:W.heap[w.heap.size+1]? =some (.cells #[.int .i64 0,.int .i64 0,.slice none 0 0] 35 (0,0))
 b:Below w.heap.size w W
theorem RdR.below {w W W':World} (h:RdR w W) (hb:Below W.heap.size W W') :RdR w W':=⟨bB h.x hb,bB h.y hb,h.b.trans (hb.mono h.b.size)⟩
theorem drop_head {l:List UInt8} (h:4<l.length) :l.drop 4=l[4] :: l.drop 5:=List.drop_eq_getElem_cons h
theorem cnt_fits {l n:Nat} {ids:List Int} {s:List UInt8} (hl:1≤l∧l≤48) (hn:n≤72057594037927935) (hr:ids.Pairwise (· < ·)) (h1: ∀x∈ids,1≤x) (ha: (ids.all fun id=>isNode l id) =true) (h: (cntF ids s (n:Int) []).2.2.2=0) :
 Fits l (cntF ids s (n:Int) []).1∧sumR (cntF ids s (n:Int) []).1+ (cntF ids s (n:Int) []).2.2.1=n∧0≤(cntF ids s (n:Int) []).2.2.1∧(cntF ids s (n:Int) []).1.length=ids.length:=by
 obtain⟨cs,e1,e2,e3,e4,e5⟩:=cntF_ok ids s (n:Int) [] (by omega) h;rw [List.nil_append] at e1;rw [←e1] at e2 e3 e4;refine⟨⟨roll_of_ids e2 hr h1 e3,?_,by omega⟩,e4,e5,by have h5:=congrArg List.length e2;rwa [List.length_map] at h5⟩;intro x hx;have hm:x.1∈ids:=by rw [←e2];exact List.mem_map_of_mem hx
 have:=(isNode_lt (List.all_eq_true.1 ha x.1 hm)).2
 simpa using this
theorem ref24_Read [Zone] (w:World) (s:List UInt8) (hs:s.length≤8000000) (hz:Zone.n≤w.heap.size) :
 Calls Tryz.prog 51 #[.string ⟨s.toArray⟩] w (RdPost s w):=by
 have HRd:=LH (readW_rd s);have HZn:=LH hz;clear hz;have HOp:=LH (fun W=>ref23_Open W s hs);unfold OpenPost at HOp;have hol:=openT_len s;have R0:Hid (RdR w ((w.alloc (.cells #[.int .i64 0,.int .i64 0,.slice none 0 0] 35)).alloc (.cells #[.int .i64 0,.int .i64 0,.slice none 0 0] 35))):=LH ⟨(heap_new_lt _ _ _ (by simp)).trans (heap_alloc_new w _),heap_new_at (w.alloc _) _ _ (by simp),bE⟩;generalize openT s=oo at HRd HOp hol;obtain⟨t,e0⟩:=oo;dsimp only at HOp hol;have hts:t.length≤8000000:=by omega
 clear hol hs
 go_enter Tryz.func51,Tryz.ntmps51
 go_upto_region 2 with fail;generalize ((w.alloc (.cells #[.int .i64 0,.int .i64 0,.slice none 0 0] 35)).alloc (.cells #[.int .i64 0,.int .i64 0,.slice none 0 0] 35)) =W0 at R0⊢;go_wp2_with fail;refine(HOp.out W0).mono ?_;rintro e w1 ⟨rfl,hb⟩;have R1:=LH (R0.out.below hb);clear hb R0 HOp;by_cases h1:e0=0
 case neg=>
  have HE:Hid (readW s=noRd e0):=LH (by rw [HRd.out];unfold rdW;exact if_pos h1);have h1i: (e0 == 0) =false:=by simpa using h1
  have cy:=bC R1.out.y;have zy:=lB R1.out.y;have cx:=bC R1.out.x;have fx:=bF R1.out.x;have zx:=lB R1.out.x;have Y:=LH (dig_store R1.out.x (.int .i64 0) (.int .i64 0) (.slice none 0 0));have B:=LH (dig_below R1.out.b (q:=w.heap.size) (Nat.le_refl _) (.int .i64 0) (.int .i64 0) (.slice none 0 0));go_wp2_with fail;clear cy zy cx fx zx;generalize (((w1.setCell ⟨w.heap.size,0,none⟩ (.int .i64 0)).setCell ⟨w.heap.size,1,none⟩ (.int .i64 0)).setCell ⟨w.heap.size,2,none⟩ (.slice none 0 0)) =wz at Y B⊢;have ce:=bC Y.out;have fe:=bF Y.out;have ze:=lB Y.out;exact bR (v:=.tuple #[.agg #[.int .i64 0,.int .i64 0,.slice none 0 0],.int .i64 e0]) (by simp only [results,Tryz.results51];go_simp) rfl (RdPost.no HE.out HZn.out B.out)
 subst h1;have HR1:Hid (readW s=if t.length<4 then noRd 9 else if t.take 4≠ [68,87,80,1] then noRd 10 else rd0 (t.drop 4)):=LH (by rw [HRd.out];unfold rdW;exact if_neg (by simp));clear HRd;by_cases h2:t.length<4
 case pos=>
  have HE:=LH (HR1.out.trans (if_pos h2));have h2i: (t.length:Int) <4:=by omega
  have cy:=bC R1.out.y;have zy:=lB R1.out.y;have cx:=bC R1.out.x;have fx:=bF R1.out.x;have zx:=lB R1.out.x;have Y:=LH (dig_store R1.out.x (.int .i64 0) (.int .i64 0) (.slice none 0 0));have B:=LH (dig_below R1.out.b (q:=w.heap.size) (Nat.le_refl _) (.int .i64 0) (.int .i64 0) (.slice none 0 0));go_wp2_with fail;clear cy zy cx fx zx;generalize (((w1.setCell ⟨w.heap.size,0,none⟩ (.int .i64 0)).setCell ⟨w.heap.size,1,none⟩ (.int .i64 0)).setCell ⟨w.heap.size,2,none⟩ (.slice none 0 0)) =wz at Y B⊢;have ce:=bC Y.out;have fe:=bF Y.out;have ze:=lB Y.out;exact bR (v:=.tuple #[.agg #[.int .i64 0,.int .i64 0,.slice none 0 0],.int .i64 9]) (by simp only [results,Tryz.results51];go_simp) rfl (RdPost.no HE.out HZn.out B.out)
 have h2i: ¬(t.length:Int) <4:=by omega
 have h2j:decide ((t.length:Int) <4) =false:=by simp;omega
 have HR2:=LH (HR1.out.trans (if_neg h2));have htt:=text_take t 4;clear HR1;by_cases h3:t.take 4= [68,87,80,1]
 case neg=>
  have HE:=LH (HR2.out.trans (if_pos h3));have h3i: (t.take 4 == [68,87,80,1]) =false:=by simpa using h3
  generalize t.take 4=t4 at htt h3i;clear h3;have cy:=bC R1.out.y;have zy:=lB R1.out.y;have cx:=bC R1.out.x;have fx:=bF R1.out.x;have zx:=lB R1.out.x;have Y:=LH (dig_store R1.out.x (.int .i64 0) (.int .i64 0) (.slice none 0 0));have B:=LH (dig_below R1.out.b (q:=w.heap.size) (Nat.le_refl _) (.int .i64 0) (.int .i64 0) (.slice none 0 0));go_wp2_with fail;clear cy zy cx fx zx;generalize (((w1.setCell ⟨w.heap.size,0,none⟩ (.int .i64 0)).setCell ⟨w.heap.size,1,none⟩ (.int .i64 0)).setCell ⟨w.heap.size,2,none⟩ (.slice none 0 0)) =wz at Y B⊢;have ce:=bC Y.out;have fe:=bF Y.out;have ze:=lB Y.out;exact bR (v:=.tuple #[.agg #[.int .i64 0,.int .i64 0,.slice none 0 0],.int .i64 10]) (by simp only [results,Tryz.results51];go_simp) rfl (RdPost.no HE.out HZn.out B.out)
 have HR3:=LH (HR2.out.trans (if_neg (fun h=>h h3)));rw [h3] at htt;clear HR2 h3;by_cases h4:t.length=4
 case pos=>
  have HE:Hid (readW s=noRd 9):=LH (by rw [HR3.out,List.drop_eq_nil_of_le (by omega)];rfl);have h4i: ((t.length:Int) == 4) =true:=by simp;omega
  have cy:=bC R1.out.y;have zy:=lB R1.out.y;have cx:=bC R1.out.x;have fx:=bF R1.out.x;have zx:=lB R1.out.x;have Y:=LH (dig_store R1.out.x (.int .i64 0) (.int .i64 0) (.slice none 0 0));have B:=LH (dig_below R1.out.b (q:=w.heap.size) (Nat.le_refl _) (.int .i64 0) (.int .i64 0) (.slice none 0 0));go_wp2_with fail;clear cy zy cx fx zx;generalize (((w1.setCell ⟨w.heap.size,0,none⟩ (.int .i64 0)).setCell ⟨w.heap.size,1,none⟩ (.int .i64 0)).setCell ⟨w.heap.size,2,none⟩ (.slice none 0 0)) =wz at Y B⊢;have ce:=bC Y.out;have fe:=bF Y.out;have ze:=lB Y.out;exact bR (v:=.tuple #[.agg #[.int .i64 0,.int .i64 0,.slice none 0 0],.int .i64 9]) (by simp only [results,Tryz.results51];go_simp) rfl (RdPost.no HE.out HZn.out B.out)
 have h4i: ((t.length:Int) == 4) =false:=by simp;omega
 have h4l:4<t.length:=by omega
 rw [drop_head h4l] at HR3;have hix: ∀W,(Instr.index 9 (.string ⟨t.toArray⟩) (.int .i64 4)).run Tryz.prog W=.ok (.int .u8 ((t[4]).toNat:Int)) W:=fun W=>text_at W t 4 h4l;have hbl: (t[4]).toNat<256:=(t[4]).toNat_lt;have HR4:Hid (readW s=if (t[4]).toNat<1∨48< (t[4]).toNat then noRd 10 else rd1 (t[4]).toNat (getB (t.drop 5)) (t.drop 5)):=LH HR3.out;clear HR3;generalize (t[4]).toNat=l at hix hbl HR4;have HIs:=LH (ref2_Is w1 l);have htd:=text_drop t 5;have hdl: (t.drop 5).length≤8000000:=by rw [List.length_drop];omega
 have htl5:5≤t.length:=by omega
 obtain⟨s0,hs0⟩ : ∃x,x=t.drop 5:=⟨_,rfl⟩;rw [←hs0] at htd hdl HR4;clear hs0;by_cases h5:l<1∨48<l
 case pos=>
  have HE:=LH (HR4.out.trans (if_pos h5));have h5i:decide (1≤(l:Int)∧(l:Int)≤48) =false:=by simp;omega
  rw [h5i] at HIs;clear h5 h5i;go_wp2_with fail;refine HIs.out.mono ?_;rintro e w2 ⟨rfl,hb⟩;have R2:=LH (R1.out.below hb);clear hb;have cy:=bC R2.out.y;have zy:=lB R2.out.y;have cx:=bC R2.out.x;have fx:=bF R2.out.x;have zx:=lB R2.out.x;have Y:=LH (dig_store R2.out.x (.int .i64 0) (.int .i64 0) (.slice none 0 0));have B:=LH (dig_below R2.out.b (q:=w.heap.size) (Nat.le_refl _) (.int .i64 0) (.int .i64 0) (.slice none 0 0));go_wp2_with fail;clear cy zy cx fx zx;generalize (((w2.setCell ⟨w.heap.size,0,none⟩ (.int .i64 0)).setCell ⟨w.heap.size,1,none⟩ (.int .i64 0)).setCell ⟨w.heap.size,2,none⟩ (.slice none 0 0)) =wz at Y B⊢;have ce:=bC Y.out;have fe:=bF Y.out;have ze:=lB Y.out;exact bR (v:=.tuple #[.agg #[.int .i64 0,.int .i64 0,.slice none 0 0],.int .i64 10]) (by simp only [results,Tryz.results51];go_simp) rfl (RdPost.no HE.out HZn.out B.out)
 have HR5:=LH (HR4.out.trans (if_neg h5));have h5i:decide (1≤(l:Int)∧(l:Int)≤48) =true:=by simp;omega
 rw [h5i] at HIs;have hl48:1≤l∧l≤48:=by omega
 clear h5 h5i HR4;have hG1:=LH (fun W=>ref22_Get W s0 (by omega));unfold GetPost at hG1;have HBd:=LH (getB_bounds s0);generalize getB s0=gk at HR5 hG1 HBd;obtain⟨k,zk,ek⟩:=gk;dsimp only at hG1 HBd;go_wp2_with fail;refine HIs.out.mono ?_;rintro e w2 ⟨rfl,hb⟩;have R2:=LH (R1.out.below hb);clear hb R1 HIs hix;go_wp2_with fail;refine(hG1.out w2).mono ?_;rintro e w3 ⟨rfl,hb⟩;have R3:=LH (R2.out.below hb);clear hb R2 hG1 htd;have HR6:Hid (readW s=if ek≠0 then noRd ek else if k<1∨1048576<k then noRd 10 else rd2 l k (getB (s0.drop zk)) (s0.drop zk)):=LH HR5.out;clear HR5;by_cases h6:ek=0
 case neg=>
  have HE:=LH (HR6.out.trans (if_pos h6));have h6i: (ek == 0) =false:=by simpa using h6
  have cy:=bC R3.out.y;have zy:=lB R3.out.y;have cx:=bC R3.out.x;have fx:=bF R3.out.x;have zx:=lB R3.out.x;have Y:=LH (dig_store R3.out.x (.int .i64 0) (.int .i64 0) (.slice none 0 0));have B:=LH (dig_below R3.out.b (q:=w.heap.size) (Nat.le_refl _) (.int .i64 0) (.int .i64 0) (.slice none 0 0));go_wp2_with fail;clear cy zy cx fx zx;generalize (((w3.setCell ⟨w.heap.size,0,none⟩ (.int .i64 0)).setCell ⟨w.heap.size,1,none⟩ (.int .i64 0)).setCell ⟨w.heap.size,2,none⟩ (.slice none 0 0)) =wz at Y B⊢;have ce:=bC Y.out;have fe:=bF Y.out;have ze:=lB Y.out;exact bR (v:=.tuple #[.agg #[.int .i64 0,.int .i64 0,.slice none 0 0],.int .i64 ek]) (by simp only [results,Tryz.results51];go_simp) rfl (RdPost.no HE.out HZn.out B.out)
 subst h6;have HR7:=LH (HR6.out.trans (if_neg (by simp)));clear HR6;have HIk:=LH (ref12_Is w3 k);have hk9:=HBd.out.1;have hzk:=HBd.out.2.2.1;by_cases h7:k<1∨1048576<k
 case pos=>
  have HE:=LH (HR7.out.trans (if_pos h7));have h7i:decide (1≤(k:Int)∧(k:Int)≤1048576) =false:=by simp;omega
  rw [h7i] at HIk;clear h7 h7i;go_wp2_with fail;refine HIk.out.mono ?_;rintro e w4 ⟨rfl,hb⟩;have R4:=LH (R3.out.below hb);clear hb;have cy:=bC R4.out.y;have zy:=lB R4.out.y;have cx:=bC R4.out.x;have fx:=bF R4.out.x;have zx:=lB R4.out.x;have Y:=LH (dig_store R4.out.x (.int .i64 0) (.int .i64 0) (.slice none 0 0));have B:=LH (dig_below R4.out.b (q:=w.heap.size) (Nat.le_refl _) (.int .i64 0) (.int .i64 0) (.slice none 0 0));go_wp2_with fail;clear cy zy cx fx zx;generalize (((w4.setCell ⟨w.heap.size,0,none⟩ (.int .i64 0)).setCell ⟨w.heap.size,1,none⟩ (.int .i64 0)).setCell ⟨w.heap.size,2,none⟩ (.slice none 0 0)) =wz at Y B⊢;have ce:=bC Y.out;have fe:=bF Y.out;have ze:=lB Y.out;exact bR (v:=.tuple #[.agg #[.int .i64 0,.int .i64 0,.slice none 0 0],.int .i64 10]) (by simp only [results,Tryz.results51];go_simp) rfl (RdPost.no HE.out HZn.out B.out)
 have HR8:=LH (HR7.out.trans (if_neg h7));have h7i:decide (1≤(k:Int)∧(k:Int)≤1048576) =true:=by simp;omega
 rw [h7i] at HIk;have hkb:1≤k∧k≤1048576:=by omega
 clear h7 h7i HR7 hk9;have htd:=text_drop s0 zk;have hdl1: (s0.drop zk).length≤8000000:=by rw [List.length_drop];omega
 generalize s0.drop zk=s1 at htd hdl1 HR8;have hG1:=LH (fun W=>ref22_Get W s1 (by omega));unfold GetPost at hG1;have HBd:=LH (getB_bounds s1);generalize getB s1=gn at HR8 hG1 HBd;obtain⟨n,zn,en⟩:=gn;dsimp only at hG1 HBd;go_wp2_with fail;refine HIk.out.mono ?_;rintro e w4 ⟨rfl,hb⟩;have R4:=LH (R3.out.below hb);clear hb R3 HIk;go_wp2_with fail;refine(hG1.out w4).mono ?_;rintro e w5 ⟨rfl,hb⟩;have R5:=LH (R4.out.below hb);clear hb R4 hG1 htd;have HR9:Hid (readW s=if en≠0 then noRd en else if 72057594037927935<n then noRd 10 else rd3 l k n (fallB (s1.drop zn) (8* (k:Int))) (s1.drop zn)):=LH HR8.out;clear HR8;by_cases h8:en=0
 case neg=>
  have HE:=LH (HR9.out.trans (if_pos h8));have h8i: (en == 0) =false:=by simpa using h8
  have cy:=bC R5.out.y;have zy:=lB R5.out.y;have cx:=bC R5.out.x;have fx:=bF R5.out.x;have zx:=lB R5.out.x;have Y:=LH (dig_store R5.out.x (.int .i64 0) (.int .i64 0) (.slice none 0 0));have B:=LH (dig_below R5.out.b (q:=w.heap.size) (Nat.le_refl _) (.int .i64 0) (.int .i64 0) (.slice none 0 0));go_wp2_with fail;clear cy zy cx fx zx;generalize (((w5.setCell ⟨w.heap.size,0,none⟩ (.int .i64 0)).setCell ⟨w.heap.size,1,none⟩ (.int .i64 0)).setCell ⟨w.heap.size,2,none⟩ (.slice none 0 0)) =wz at Y B⊢;have ce:=bC Y.out;have fe:=bF Y.out;have ze:=lB Y.out;exact bR (v:=.tuple #[.agg #[.int .i64 0,.int .i64 0,.slice none 0 0],.int .i64 en]) (by simp only [results,Tryz.results51];go_simp) rfl (RdPost.no HE.out HZn.out B.out)
 subst h8;have HR10:=LH (HR9.out.trans (if_neg (by simp)));clear HR9;have hzn:=HBd.out.2.2.1;by_cases h9:72057594037927935<n
 case pos=>
  have HE:=LH (HR10.out.trans (if_pos h9));have h9i:decide ((72057594037927935:Int) < (n:Int)) =true:=by simp;omega
  clear h9;have cy:=bC R5.out.y;have zy:=lB R5.out.y;have cx:=bC R5.out.x;have fx:=bF R5.out.x;have zx:=lB R5.out.x;have Y:=LH (dig_store R5.out.x (.int .i64 0) (.int .i64 0) (.slice none 0 0));have B:=LH (dig_below R5.out.b (q:=w.heap.size) (Nat.le_refl _) (.int .i64 0) (.int .i64 0) (.slice none 0 0));go_wp2_with fail;clear cy zy cx fx zx;generalize (((w5.setCell ⟨w.heap.size,0,none⟩ (.int .i64 0)).setCell ⟨w.heap.size,1,none⟩ (.int .i64 0)).setCell ⟨w.heap.size,2,none⟩ (.slice none 0 0)) =wz at Y B⊢;have ce:=bC Y.out;have fe:=bF Y.out;have ze:=lB Y.out;exact bR (v:=.tuple #[.agg #[.int .i64 0,.int .i64 0,.slice none 0 0],.int .i64 10]) (by simp only [results,Tryz.results51];go_simp) rfl (RdPost.no HE.out HZn.out B.out)
 have HR11:=LH (HR10.out.trans (if_neg h9));have h9i:decide ((72057594037927935:Int) < (n:Int)) =false:=by simp;omega
 have hnb:n≤72057594037927935:=by omega
 clear h9 HR10;have htd:=text_drop s1 zn;have hdl2: (s1.drop zn).length≤8000000:=by rw [List.length_drop];omega
 generalize s1.drop zn=s2 at htd hdl2 HR11;have HFa:=LH (fun W=>ref22_Falls W s2 (8* (k:Int)) (by omega) (by omega) (by omega));unfold FallsPost at HFa;have HFr:=LH (fallB_rise s2 (8* (k:Int)));have HFb:=LH (fallB_bounds s2 (8* (k:Int)));generalize fallB s2 (8* (k:Int)) =f at HR11 HFa HFr HFb;obtain⟨ids,ze,ef⟩:=f;dsimp only at HFa HFr HFb;go_wp2_with fail;refine(HFa.out w5).mono ?_;rintro e w6 ⟨Ai,ci,rfl,hoi,hb⟩;have R6:=LH (R5.out.below hb);have SI:=LH hoi.sl;clear hb hoi R5 HFa htd;have HR12:Hid (readW s=if ef≠0 then noRd ef else if (ids.all fun id=>isNode l id) =false then noRd 10 else rd4 l k n (cntF ids (s2.drop ze) (n:Int) [])):=LH HR11.out;clear HR11;by_cases h10:ef=0
 case neg=>
  have HE:=LH (HR12.out.trans (if_pos h10));have h10i: (ef == 0) =false:=by simpa using h10
  have cy:=bC R6.out.y;have zy:=lB R6.out.y;have cx:=bC R6.out.x;have fx:=bF R6.out.x;have zx:=lB R6.out.x;have Y:=LH (dig_store R6.out.x (.int .i64 0) (.int .i64 0) (.slice none 0 0));have B:=LH (dig_below R6.out.b (q:=w.heap.size) (Nat.le_refl _) (.int .i64 0) (.int .i64 0) (.slice none 0 0));go_wp2_with fail;clear cy zy cx fx zx;generalize (((w6.setCell ⟨w.heap.size,0,none⟩ (.int .i64 0)).setCell ⟨w.heap.size,1,none⟩ (.int .i64 0)).setCell ⟨w.heap.size,2,none⟩ (.slice none 0 0)) =wz at Y B⊢;have ce:=bC Y.out;have fe:=bF Y.out;have ze:=lB Y.out;exact bR (v:=.tuple #[.agg #[.int .i64 0,.int .i64 0,.slice none 0 0],.int .i64 ef]) (by simp only [results,Tryz.results51];go_simp) rfl (RdPost.no HE.out HZn.out B.out)
 subst h10;have HR13:=LH (HR12.out.trans (if_neg (by simp)));clear HR12;have hze:=HFb.out.1;have hil:ids.length≤8388608:=by have:=HFb.out.2.2.2;omega
 have HIn:=LH (fun x hx=>(HFb.out.2.1 x hx));go_wp2_with fail
 go_loopw [17] (fun i W=>∃q:Nat,i=.int .i64 q∧q≤ids.length∧((ids.take q).all fun id=>isNode l id) =true∧Below w6.heap.size w6 W) (fun i _=>ids.length - (intOf i).toNat)
 case atStart=>exact⟨0,rfl,Nat.zero_le _,rfl,Below.refl _ _⟩
 case round=>
  obtain⟨q,rfl,hq,hal,hB⟩:=hrel;have HA:=LH hal;have RR:=LH (R6.out.below hB);have SR:=LH (SI.out.keep (B':=wr.heap.size) hB.size fun p hp=>hB.cell hp);have HB:=LH hB;have sz:=hB.size;clear hal hB;by_cases hlt:q<ids.length
  case pos=>
   have hqi: (q:Int) < (ids.length:Int):=by omega
   obtain⟨b2,off,rfl,hb2,hc⟩:=SR.out.at_ hlt;have d0:=hc 0 (.int .i64 ids[q]) rfl;simp only [Nat.mul_one,Nat.add_zero] at d0;have zb:=cell_lt d0;have HT:Hid (((ids.take (q+1)).all fun id=>isNode l id) =isNode l ids[q]):=LH (by rw [List.take_succ_eq_append_getElem hlt,List.all_append,HA.out];simp);have HM:Hid (isNode l ids[q] =false→(ids.all fun id=>isNode l id) =false):=LH fun h=>List.all_eq_false.2 ⟨_,List.getElem_mem hlt,by rw [h];simp⟩;have hx9:=(HIn.out _ (List.getElem_mem hlt)).2;generalize ids[q] =x at d0 HT HM hx9;have H1:=LH (ref2_Right wr l x hx9);clear hc
   cases hx:isNode l x
   ·rw [hx] at HM H1
    have HE:Hid (readW s=noRd 10):=LH (HR13.out.trans (if_pos (HM.out (by simp))));clear hx HT HM;go_wp2_with fail;refine H1.out.mono ?_;rintro e w7 ⟨rfl,hb⟩;have R7:=LH (RR.out.below hb);clear hb d0 zb;have cy:=bC R7.out.y;have zy:=lB R7.out.y;have cx:=bC R7.out.x;have fx:=bF R7.out.x;have zx:=lB R7.out.x;have Y:=LH (dig_store R7.out.x (.int .i64 0) (.int .i64 0) (.slice none 0 0));have B:=LH (dig_below R7.out.b (q:=w.heap.size) (Nat.le_refl _) (.int .i64 0) (.int .i64 0) (.slice none 0 0));go_wp2_with fail;clear cy zy cx fx zx;generalize (((w7.setCell ⟨w.heap.size,0,none⟩ (.int .i64 0)).setCell ⟨w.heap.size,1,none⟩ (.int .i64 0)).setCell ⟨w.heap.size,2,none⟩ (.slice none 0 0)) =wz at Y B⊢;have ce:=bC Y.out;have fe:=bF Y.out;have ze:=lB Y.out;exact bR (v:=.tuple #[.agg #[.int .i64 0,.int .i64 0,.slice none 0 0],.int .i64 10]) (by simp only [results,Tryz.results51];go_simp) rfl (RdPost.no HE.out HZn.out B.out)
   ·rw [hx] at HT H1
    clear hx HM;go_wp2_with fail;refine H1.out.mono ?_;rintro e w7 ⟨rfl,hb⟩;have HB7:=LH (HB.out.trans (hb.mono sz));clear hb;go_wp2_with fail;go_roundw
    case rel=>exact⟨q+1,by go_num,by omega,HT.out,HB7.out⟩
    case measure=>simp [intOf];omega
  obtain rfl:q=ids.length:=by omega
  have hqi:decide ((ids.length:Int) < (ids.length:Int)) =false:=by simp
  rw [List.take_length] at HA;have HR14:Hid (readW s=rd4 l k n (cntF ids (s2.drop ze) (n:Int) [])):=LH (HR13.out.trans (if_neg (by rw [HA.out];simp)));have htd:=text_drop s2 ze;have hdl3: (s2.drop ze).length≤8000000:=by rw [List.length_drop];omega
  generalize s2.drop ze=s3 at htd hdl3 HR14;have HCn:=LH (fun W h=>ref24_counts W Ai ci ids s3 (n:Int) h hil (by omega) (by omega) (by omega));unfold CntPost at HCn;have HFt:=LH (cnt_fits (s:=s3) hl48 hnb HFr.out (fun x hx=>(HIn.out x hx).1) HA.out);generalize cntF ids s3 (n:Int) [] =c at HR14 HCn HFt;obtain⟨nd,rest,left,ec⟩:=c;dsimp only at HCn HFt;clear HR13 HIn HFb HFr HA;go_wp2_with fail;refine(HCn.out wr SR.out).mono ?_;rintro e w7 ⟨An,cn,rfl,hon,hb⟩;have R7:=LH (RR.out.below hb);have SN:=LH (hon.slZ (Nat.le_trans HZn.out RR.out.b.size) hb.size);have HB7:=LH (HB.out.trans (hb.mono sz));clear hb hon RR HB SR SI HCn htd;have HR15:Hid (readW s=if ec≠0 then noRd ec else if rest≠ [] then noRd 11 else if 0<left then noRd 10 else if lightOf l nd (k:Int) =false then noRd 13 else ((l,(k:Int),(n:Int),nd),0)):=LH HR14.out;clear HR14;by_cases h11:ec=0
  case neg=>
   have HE:=LH (HR15.out.trans (if_pos h11));have h11i: (ec == 0) =false:=by simpa using h11
   have cy:=bC R7.out.y;have zy:=lB R7.out.y;have cx:=bC R7.out.x;have fx:=bF R7.out.x;have zx:=lB R7.out.x;have Y:=LH (dig_store R7.out.x (.int .i64 0) (.int .i64 0) (.slice none 0 0));have B:=LH (dig_below R7.out.b (q:=w.heap.size) (Nat.le_refl _) (.int .i64 0) (.int .i64 0) (.slice none 0 0));go_wp2_with fail;clear cy zy cx fx zx;generalize (((w7.setCell ⟨w.heap.size,0,none⟩ (.int .i64 0)).setCell ⟨w.heap.size,1,none⟩ (.int .i64 0)).setCell ⟨w.heap.size,2,none⟩ (.slice none 0 0)) =wz at Y B⊢;have ce:=bC Y.out;have fe:=bF Y.out;have ze:=lB Y.out;exact bR (v:=.tuple #[.agg #[.int .i64 0,.int .i64 0,.slice none 0 0],.int .i64 ec]) (by simp only [results,Tryz.results51];go_simp) rfl (RdPost.no HE.out HZn.out B.out)
  subst h11;have HR16:=LH (HR15.out.trans (if_neg (by simp)));clear HR15;obtain⟨hfit,hsum,hlf,hnl⟩:=HFt.out rfl;by_cases h12:rest= []
  case neg=>
   have HE:=LH (HR16.out.trans (if_pos h12));have h12i: (rest == []) =false:=by simpa using h12
   clear h12;have cy:=bC R7.out.y;have zy:=lB R7.out.y;have cx:=bC R7.out.x;have fx:=bF R7.out.x;have zx:=lB R7.out.x;have Y:=LH (dig_store R7.out.x (.int .i64 0) (.int .i64 0) (.slice none 0 0));have B:=LH (dig_below R7.out.b (q:=w.heap.size) (Nat.le_refl _) (.int .i64 0) (.int .i64 0) (.slice none 0 0));go_wp2_with fail;clear cy zy cx fx zx;generalize (((w7.setCell ⟨w.heap.size,0,none⟩ (.int .i64 0)).setCell ⟨w.heap.size,1,none⟩ (.int .i64 0)).setCell ⟨w.heap.size,2,none⟩ (.slice none 0 0)) =wz at Y B⊢;have ce:=bC Y.out;have fe:=bF Y.out;have ze:=lB Y.out;exact bR (v:=.tuple #[.agg #[.int .i64 0,.int .i64 0,.slice none 0 0],.int .i64 11]) (by simp only [results,Tryz.results51];go_simp) rfl (RdPost.no HE.out HZn.out B.out)
  subst h12;have HR17:=LH (HR16.out.trans (if_neg (by simp)));clear HR16 HFt;have hroll:=hfit.roll;have hI:=fits_ints hfit hl48.2;have hs0:=sumR_nonneg hroll;have htot:=tot_roll hroll hfit.sum;have hndl:nd.length≤maxLen:=by rw [hnl];unfold maxLen;omega
  have V8:=LH (heap_alloc_new w7 (.cells #[.int .i64 k,.int .i64 l,.slice An nd.length cn] 35));have R8:=LH (R7.out.below ((Below.refl w7.heap.size w7).alloc (Nat.le_refl _) (.cells #[.int .i64 k,.int .i64 l,.slice An nd.length cn] 35)));have SN8:=LH (SN.out.alloc (.cells #[.int .i64 k,.int .i64 l,.slice An nd.length cn] 35));have HN:=LH (And.intro hfit hnl);clear R7 SN HB7 hfit hnl;go_upto_region 43 with fail;obtain⟨pd,hpd⟩ : ∃q,q=w7.heap.size:=⟨_,rfl⟩;rw [←hpd] at V8⊢;generalize w7.alloc (.cells #[.int .i64 k,.int .i64 l,.slice An nd.length cn] 35) =w8 at V8 R8 SN8⊢;clear hpd;have HWe:=LH (ref13_Weight w8 k l An cn nd SN8.out.sl hI hndl);rw [htot] at HWe;have HLi:=LH (fun W h=>ref12_Light W l k An cn nd h hI hndl htot hs0 HN.out.1.sum (by omega) (by omega));have cv:=bC V8.out;have zv:=lB V8.out;generalize sumR nd=sm at HWe hsum hs0;go_wp2_with fail;refine HWe.out.mono ?_;rintro e w9 ⟨rfl,hb⟩;have R9:=LH (R8.out.below hb);have V9:=LH (bB V8.out hb);have SN9:=LH (SN8.out.below hb);clear hb R8 V8 SN8 HWe cv zv;by_cases h13:0<left
  case pos=>
   have HE:=LH (HR17.out.trans (if_pos h13));have h13i: (sm == (n:Int)) =false:=by simp;omega
   clear h13;have cy:=bC R9.out.y;have zy:=lB R9.out.y;have cx:=bC R9.out.x;have fx:=bF R9.out.x;have zx:=lB R9.out.x;have Y:=LH (dig_store R9.out.x (.int .i64 0) (.int .i64 0) (.slice none 0 0));have B:=LH (dig_below R9.out.b (q:=w.heap.size) (Nat.le_refl _) (.int .i64 0) (.int .i64 0) (.slice none 0 0));go_wp2_with fail;clear cy zy cx fx zx;generalize (((w9.setCell ⟨w.heap.size,0,none⟩ (.int .i64 0)).setCell ⟨w.heap.size,1,none⟩ (.int .i64 0)).setCell ⟨w.heap.size,2,none⟩ (.slice none 0 0)) =wz at Y B⊢;have ce:=bC Y.out;have fe:=bF Y.out;have ze:=lB Y.out;exact bR (v:=.tuple #[.agg #[.int .i64 0,.int .i64 0,.slice none 0 0],.int .i64 10]) (by simp only [results,Tryz.results51];go_simp) rfl (RdPost.no HE.out HZn.out B.out)
  have HR18:=LH (HR17.out.trans (if_neg h13));have h13i: (sm == (n:Int)) =true:=by simp;omega
  clear HR17 h13;have cv:=bC V9.out;have zv:=lB V9.out;have HL9:=LH (HLi.out w9 SN9.out.sl);clear HLi
  cases hlig:lightOf l nd k
  ·rw [hlig] at HL9
   have HE:=LH (HR18.out.trans (if_pos hlig));clear hlig HR18;go_wp2_with fail;refine HL9.out.mono ?_;rintro e w10 ⟨rfl,hb⟩;have R10:=LH (R9.out.below hb);clear hb cv zv;have cy:=bC R10.out.y;have zy:=lB R10.out.y;have cx:=bC R10.out.x;have fx:=bF R10.out.x;have zx:=lB R10.out.x;have Y:=LH (dig_store R10.out.x (.int .i64 0) (.int .i64 0) (.slice none 0 0));have B:=LH (dig_below R10.out.b (q:=w.heap.size) (Nat.le_refl _) (.int .i64 0) (.int .i64 0) (.slice none 0 0));go_wp2_with fail;clear cy zy cx fx zx;generalize (((w10.setCell ⟨w.heap.size,0,none⟩ (.int .i64 0)).setCell ⟨w.heap.size,1,none⟩ (.int .i64 0)).setCell ⟨w.heap.size,2,none⟩ (.slice none 0 0)) =wz at Y B⊢;have ce:=bC Y.out;have fe:=bF Y.out;have ze:=lB Y.out;exact bR (v:=.tuple #[.agg #[.int .i64 0,.int .i64 0,.slice none 0 0],.int .i64 13]) (by simp only [results,Tryz.results51];go_simp) rfl (RdPost.no HE.out HZn.out B.out)
  ·rw [hlig] at HL9
   have HE:=LH (HR18.out.trans (if_neg (by rw [hlig];simp)));clear hlig HR18;go_wp2_with fail;refine HL9.out.mono ?_;rintro e w10 ⟨rfl,hb⟩;have R10:=LH (R9.out.below hb);have V10:=LH (bB V9.out hb);have SN10:=LH (SN9.out.below hb);clear hb cv zv R9 V9 SN9 HL9;have cv:=bC V10.out;have zv:=lB V10.out;have cx:=bC R10.out.x;have fx:=bF R10.out.x;have zx:=lB R10.out.x;have Y:=LH (dig_store R10.out.x (.int .i64 k) (.int .i64 l) (.slice An nd.length cn));have S:=LH (dig_slT R10.out.x SN10.out (.int .i64 k) (.int .i64 l) (.slice An nd.length cn));have B:=LH (dig_below R10.out.b (q:=w.heap.size) (Nat.le_refl _) (.int .i64 k) (.int .i64 l) (.slice An nd.length cn));go_wp2_with fail;clear cx fx zx cv zv;generalize (((w10.setCell ⟨w.heap.size,0,none⟩ (.int .i64 k)).setCell ⟨w.heap.size,1,none⟩ (.int .i64 l)).setCell ⟨w.heap.size,2,none⟩ (.slice An nd.length cn)) =wz at Y S B⊢;have ce:=bC Y.out;have fe:=bF Y.out;have ze:=lB Y.out;exact bR (v:=.tuple #[.agg #[.int .i64 k,.int .i64 l,.slice An nd.length cn],.int .i64 0]) (by simp only [results,Tryz.results51];go_simp) rfl (RdPost.ok HE.out S.out B.out)
def listN (s n:Nat) :List Int:=List.map (fun i:Nat=>(i:Int)) ((List.range n).filter fun i=>hasN s i)
def listC (s:Nat) :List Int:=listN s 48
theorem listN_step (s n:Nat) :listN s (n+1) =listN s n ++ (if hasN s n=true then [(n:Int)] else []):=by
 unfold listN;rw [List.range_succ,List.filter_append,List.map_append]
 congr 1
 cases h:hasN s n <;> simp [h]
theorem listN_len (s n:Nat) : (listN s n).length≤n:=by
 unfold listN;rw [List.length_map];exact Nat.le_trans (List.length_filter_le _ _) (by simp)
theorem listC_mem {s:Nat} {x:Int} :x∈listC s↔hasC s x=true:=by
 unfold listC listN;rw [List.mem_map]
 constructor
 ·rintro⟨i,hi,rfl⟩
  rw [List.mem_filter,List.mem_range] at hi;unfold hasC isCrew;simp only [Int.toNat_natCast,hi.2,Bool.and_true,decide_eq_true_eq];omega
 ·intro h
  unfold hasC at h;rw [Bool.and_eq_true] at h;obtain⟨n,rfl,hn⟩:=isCrew_nat h.1;exact⟨n,by rw [List.mem_filter,List.mem_range];exact⟨hn,by simpa using h.2⟩,rfl⟩
theorem ref27_List (w:World) (s:Nat) (hs:s<2^64) :
 Calls Tryz.prog 54 #[.int .u64 s] w fun e w'=>∃v,e=.returned v∧Own w' w.heap.size 3 encZ v (listC s)∧Below w.heap.size w w':=by
 have HBt:=LH (fun W n (h:n≤48)=>ref27_bit n h W);have HPw:=LH (fun p n (h:p=2^n)=>ref_has hs (n:=n) h)
 go_enter Tryz.func54,Tryz.ntmps54
 go_wp2_with fail
 go_loopw [3,4] (fun u i wr=>∃q:Nat,i=.int .i64 q∧q≤48∧Own wr w.heap.size 3 encZ u (listN s q)∧Below w.heap.size w wr) (fun _ i _=>48 - (intOf i).toNat)
 case atStart=>exact⟨0,rfl,by omega,Own.nil _ _ _ _,Below.refl _ _⟩
 case round=>
  obtain⟨q,rfl,hq,ho,hB⟩:=hrel;obtain⟨Ao,co,rfl,_⟩:=ho.form;have HO:=LH ho;have HB:=LH hB;have sz:=hB.size;clear ho hB;by_cases hlt:q<48
  ·have hqi: (q:Int) <48:=by omega
   have HN:=LH (listN_step s q);have hpq:=pow_crew hlt;have HB1:=LH (HBt.out wr q (by omega));obtain⟨p,hp⟩ : ∃p,p=2^q:=⟨_,rfl⟩;have HH:=LH (HPw.out p q hp);rw [←hp] at hpq HB1;have hp1: ((p:Int) == 0) =false:=by simp;omega
   clear hp;have hll:=listN_len s q;generalize listN s q=L at HO HN hll⊢
   cases hb:hasN s q
   ·rw [hb] at HN HH
    have HNe:Hid (listN s (q+1) =L):=LH (by simpa using HN.out);have hh:=HH.out;clear HN HH hb;go_wp2_with fail;refine HB1.out.mono ?_;rintro e w1 ⟨rfl,hb1⟩;have HO2:=LH (HO.out.below hb1);have HB2:=LH (HB.out.trans (hb1.mono sz));clear hb1;go_wp2_with fail;go_roundw
    case rel=>exact⟨q+1,by go_num,by omega,by rw [HNe.out];exact HO2.out,HB2.out⟩
    case measure=>simp [intOf];omega
   ·rw [hb] at HN HH
    have HNe:Hid (listN s (q+1) =L ++ [(q:Int)]):=LH (by simpa using HN.out);have hh:=HH.out;clear HN HH hb;go_wp2_with fail;refine HB1.out.mono ?_;rintro e w1 ⟨rfl,hb1⟩;have HO2:=LH (HO.out.below hb1);have HB2:=LH (HB.out.trans (hb1.mono sz));have sz1:=hb1.size;clear hb1;go_wp2_with ((at_builtin;go_loud (refine wpList_push tyZ rfl _ _ rfl encZ w1 w.heap.size (.slice Ao L.length co) L rfl HO2.out (q:Int) (by go_simp) (by simp [encZ]) ?c1 ?c2 ?c3 ?c4)))
    case c1=>omega
    case c2=>unfold maxLen;omega
    case c3=>omega
    case c4=>
     intro v' w' ho' _ _ _ hb' _;have HO3:=LH ho';have HB3:=LH (HB2.out.trans hb');clear ho' hb';go_wp2_with fail;go_roundw
     case rel=>exact⟨q+1,by go_num,by omega,by rw [HNe.out];exact HO3.out,HB3.out⟩
     case measure=>simp [intOf];omega
  ·obtain rfl:q=48:=by omega
   go_wp2_with fail;exact bR (v:=.slice Ao (listN s 48).length co) (by simp only [results,Tryz.results54];go_simp) rfl ⟨_,rfl,HO.out,HB.out⟩
theorem apart_iff {a b:Nat} (ha:a<2^48) :apartC a b= !(listC a).any (fun x=>hasC b x):=by
 rw [Bool.eq_iff_iff];unfold apartC;simp only [decide_eq_true_eq,Bool.not_eq_true',List.any_eq_false]
 constructor
 ·intro h x hx hb
  have h1:=listC_mem.1 hx;unfold hasC at h1 hb;simp only [Bool.and_eq_true] at h1 hb;obtain⟨n,rfl,hn⟩:=isCrew_nat h1.1;have h2:a.testBit n=true:=by have:=h1.2;unfold hasN at this;rw [Nat.testBit_eq_decide_div_mod_eq];simpa using this
  have h3:b.testBit n=true:=by have:=hb.2;unfold hasN at this;rw [Nat.testBit_eq_decide_div_mod_eq];simpa using this
  have h4: (a &&& b).testBit n=true:=by rw [Nat.testBit_and,h2,h3];rfl
  rw [h] at h4;simp at h4
 ·intro h
  apply Nat.eq_of_testBit_eq
  intro n;rw [Nat.zero_testBit,Nat.testBit_and];by_cases hn:n<48
  ·cases h2:a.testBit n
   ·rfl
   ·have h1:hasC a (n:Int) =true:=by
     unfold hasC isCrew hasN;rw [Nat.testBit_eq_decide_div_mod_eq] at h2;simp only [Int.toNat_natCast,h2,Bool.and_true,decide_eq_true_eq];omega
    have h3:=h _ (listC_mem.2 h1);unfold hasC isCrew hasN at h3;have hc:decide ((0:Int)≤(n:Int)∧(n:Int) <48) =true:=by simp;omega
    rw [hc] at h3;simp only [Int.toNat_natCast,Bool.true_and] at h3;rw [Nat.testBit_eq_decide_div_mod_eq,Bool.true_and]
    simpa using h3
  ·have:a.testBit n=false:=Nat.testBit_lt_two_pow (Nat.lt_of_lt_of_le ha (Nat.pow_le_pow_right (by decide) (by omega)))
   rw [this];rfl
theorem ref31_meets (w:World) (a b:Nat) (ha:a<2^48) (hb:b<2^64) :
 Calls Tryz.prog 50 #[.int .u64 a,.int .u64 b] w fun e w'=>e=.returned (.bool (!apartC a b))∧Below w.heap.size w w':=by
 have HH:=LH (fun W i=>ref27_Has b i hb W);have HE:Hid ((!apartC a b) = (listC a).any (fun x=>hasC b x)):=LH (by rw [apart_iff ha,Bool.not_not]);have HLi:=LH (ref27_List w a (by omega));have hll: (listC a).length≤48:=listN_len a 48;rw [HE.out];generalize listC a=L at HLi hll⊢;clear HE
 go_enter Tryz.func50,Tryz.ntmps50
 go_wp2_with fail;refine HLi.out.mono ?_;rintro e w1 ⟨v,rfl,ho1,hb1⟩;obtain⟨A,c,rfl,_⟩:=ho1.form;have HO:=LH ho1.sl;have HB1:=LH hb1;clear ho1 hb1;go_wp2_with fail
 go_loopw [6] (fun i wr=>∃q:Nat,i=.int .i64 q∧q≤L.length∧(L.take q).any (fun x=>hasC b x) =false∧Below w1.heap.size w1 wr) (fun i _=>L.length - (intOf i).toNat)
 case atStart=>exact⟨0,rfl,Nat.zero_le _,rfl,Below.refl _ _⟩
 case round=>
  obtain⟨q,rfl,hq,hf,hB⟩:=hrel;have HF:=LH hf;have HB:=LH (Below.then_ HB1.out hB);have HBr:=LH hB;have HR:=LH (HO.out.below hB);have sz:=hB.size;clear hf hB;by_cases hlt:q<L.length
  ·have hqi: (q:Int) < (L.length:Int):=by omega
   obtain⟨b2,off,rfl,hb2,hc⟩:=HR.out.at_ hlt;have d0:=hc 0 (.int .i64 L[q]) rfl;simp only [Nat.mul_one,Nat.add_zero] at d0;have zb:=cell_lt d0;have HT:Hid ((L.take (q+1)).any (fun x=>hasC b x) =hasC b L[q]):=LH (by rw [List.take_succ_eq_append_getElem hlt,List.any_append,HF.out];simp);have HM:Hid (hasC b L[q] =true→L.any (fun x=>hasC b x) =true):=LH fun h=>List.any_eq_true.2 ⟨_,List.getElem_mem hlt,h⟩;generalize L[q] =x at d0 HT HM;have H1:=LH (HH.out wr x);clear hc
   cases hx:hasC b x
   ·rw [hx] at HT H1
    clear hx HM;go_wp2_with fail;refine H1.out.mono ?_;rintro e w2 ⟨rfl,hb3⟩;have HB3:=LH (HBr.out.trans (hb3.mono sz));clear hb3;go_wp2_with fail;go_roundw
    case rel=>exact⟨q+1,by go_num,by omega,HT.out,HB3.out⟩
    case measure=>simp [intOf];omega
   ·rw [hx] at HM H1
    clear hx HT;go_wp2_with fail;refine H1.out.mono ?_;rintro e w2 ⟨rfl,hb3⟩;have HB3:=LH (Below.then_ HB.out hb3);clear hb3;go_wp2_with fail;exact bR (v:=.bool true) (by simp only [results,Tryz.results50];go_simp) rfl ⟨by rw [HM.out (by simp)],HB3.out⟩
  ·obtain rfl:q=L.length:=by omega
   have hqi:decide ((L.length:Int) < (L.length:Int)) =false:=by simp
   rw [List.take_length] at HF;go_wp2_with fail;exact bR (v:=.bool false) (by simp only [results,Tryz.results50];go_simp) rfl ⟨by rw [HF.out],HB.out⟩
end Go.Proofs.YtandlhihcnadmaaGreat
