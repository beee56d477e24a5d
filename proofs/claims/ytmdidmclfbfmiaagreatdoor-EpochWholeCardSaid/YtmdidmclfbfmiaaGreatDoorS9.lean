/-
  Texts of this proof, one behind the other: Send, Alive31, Ref31, Like31, SenRef, SenMore, SenNext, SenHear1, Ref24E, Ref31B, Ref14L, Ref14M, Ref31N.
-/
import Derived.Test.YtmdidmclfbfmiaaGreatDoorS2
import Derived.Test.YtmdidmclfbfmiaaGreatDoorS3
import Derived.Test.YtmdidmclfbfmiaaGreatDoorS4
import Derived.Test.YtmdidmclfbfmiaaGreatDoorS6
import Derived.Test.YtmdidmclfbfmiaaGreatDoorS7
import Derived.Test.YtmdidmclfbfmiaaGreatDoorS8
set_option linter.unusedVariables false
set_option linter.unusedSimpArgs false
set_option maxRecDepth 100000
set_option maxHeartbeats 16000000
namespace Go.Proofs.YtmdidmclfbfmiaaGreatDoor
open Go.ChangeShapes Go.WideShapes Go.ChangeAt Go.RowKit
structure SenOk (s:Sen) :Prop where
 p:rightS s.p=true
 e0:0≤s.ep
 e1:s.ep≤1099511627776
 t0:0≤s.ti
 t1:s.ti≤s.p.wait
 c:rightC s.cover=true
 me:hasC s.cover s.p.me=true
 h:rightC s.heard=true
theorem SenOk.wait {s:Sen} (h:SenOk s) :s.p.wait≤1048576∧1≤s.p.wait∧isCrew s.p.me=true∧rightC s.p.kids=true∧hasC s.p.kids s.p.me=false:=by
 have:=h.p;simp only [rightS,Bool.and_eq_true,decide_eq_true_eq,Bool.not_eq_true'] at this;exact⟨this.2,this.1.2,this.1.1.1.1,this.1.1.1.2,this.1.1.2⟩
theorem SenOk.kids {s:Sen} (h:SenOk s) :s.p.kids<2^64:=by
 have:=h.wait.2.2.2.1;simp only [rightC,decide_eq_true_eq] at this;omega
theorem SenOk.tick {s:Sen} (h:SenOk s) :SenOk (tickedS s):=by
 unfold tickedS
 split
 ·rename_i h1
  have:=h.t0;exact⟨h.p,h.e0,h.e1,by show 0≤s.ti+1;omega,by show s.ti+1≤s.p.wait;omega,h.c,h.me,h.h⟩
 ·exact h
theorem SenOk.toSent {s:Sen} (h:SenOk s) :SenOk (sentS s):=⟨h.p,h.e0,h.e1,h.t0,h.t1,h.c,h.me,h.h⟩
theorem withC_me {i:Int} (h:isCrew i=true) :rightC (withC 0 i) =true∧hasC (withC 0 i) i=true:=by
 obtain⟨n,rfl,hn⟩:=isCrew_nat h;have hp:=pow_crew hn;have h0:hasN 0 n=false:=by unfold hasN;simp
 have e:withC 0 (n:Int) =2^n:=by
  unfold withC;rw [if_pos h,Int.toNat_natCast,if_neg (by simp [h0])];simp
 rw [e];refine⟨by unfold rightC;simp only [decide_eq_true_eq];omega,?_⟩;unfold hasC hasN;rw [h,Int.toNat_natCast,Nat.div_self hp.2]
 rfl
theorem SenOk.new {l k K:Int} {p:Plc} {ep:Int} (h:newS l k K p ep=true) :SenOk (senNew l k K p ep):=by
 simp only [newS,Bool.and_eq_true,decide_eq_true_eq] at h;have hp:=h.1.1.2;simp only [rightS,Bool.and_eq_true,decide_eq_true_eq,Bool.not_eq_true'] at hp;have hm:=withC_me hp.1.1.1.1;exact⟨h.1.1.2,h.1.2,h.2,Int.le_refl _,by show (0:Int)≤p.wait;omega,hm.1,hm.2,rfl⟩
def senL (l:Nat) (s:Sen) (r:List Nd) :Ltr:=⟨s.ep,s.p.me,s.cover,wireT l s.k r⟩
theorem wireT_len {l:Nat} {k:Int} {r:List Nd} (hl:1≤l∧l≤48) (hf:Fits l r) (hk:1≤k) (hk2:k≤1048576) (hn:r.length≤50000) : (wireT l k r).length≤36+18*r.length:=by
 have h:=WireF.of hl hf hk hk2 (by omega);have h1:=h.l1;have h2:=h.l2;have h3:=h.l3;unfold wireT;rw [sealT_len];simp only [List.length_append,List.length_cons,List.length_nil];omega
theorem senL_right {l:Nat} {s:Sen} {r:List Nd} (ho:SenOk s) (hl:1≤l∧l≤48) (hf:Fits l r) (hk:1≤s.k) (hk2:s.k≤1048576) (hn:r.length≤50000) :rightL (senL l s r) =true:=by
 have h1:=wireT_len hl hf hk hk2 hn;have h2:=ho.e0;have h3:=ho.me;have h4:=ho.c;unfold rightL senL;simp only [Bool.and_eq_true,decide_eq_true_eq];exact⟨⟨⟨h2,h3⟩,h4⟩,by omega⟩
def SendPost (g K l:Nat) (s:Sen) (r:List Nd) (F:Nat→Prop) (w:World) (e:Ending) (w':World) :Prop:=
 if s.sent=true then e=.returned (.tuple #[.string ⟨#[]⟩,.int .i64 18])∧Below w.heap.size w w'
 else if readyS s=false then e=.returned (.tuple #[.string ⟨#[]⟩,.int .i64 22])∧Below w.heap.size w w'
 else ∃ps r',RunTo l (sumR r / s.k) r ps r'∧e=.returned (.tuple #[.string ⟨(ltrT (senL l s r')).toArray⟩,.int .i64 0])∧SensTo w g K l (sentS s) r' F w'
theorem sensor_Send (w:World) (g K l:Nat) (s:Sen) (r:List Nd) (F:Nat→Prop) (h:SensAt w g K l s r F) (ho:SenOk s) (hn:r.length≤50000) :
 Calls Tryz.prog 107 #[.pointer (some ⟨g,0,none⟩)] w (SendPost g K l s r F w):=by
 have HOk:=LH ho;have HS:=LH h;obtain⟨dg,F0,hF,h1,h2,h3,h4,h5⟩:=h;have HR:=LH (sensor_Ready w g dg s h1);have HI:=LH h1;have HGD:=LH h4;have HF0:=LH h5;have HX:Hid (∀W r',DigTo w dg K l s.k r' F0 W→SensTo w g K l s r' F W):=LH fun W r' hd=>SensAt.dig hF h1 h2 h3 h5 hd;have HL:=LH h2;have HK:=LH h3;have HFe:=LH hF;have cc:=bC h1;have cf:=bF h1;have zb:=lB h1;have hll:=h4.l_le;have hfit:=h4.fits;have hk:1≤s.k∧s.k≤1048576:=by obtain⟨p,F0,_,_,_,_,h1,h2⟩:=h4.parts;exact⟨h1,h2⟩
 clear h1 h2 h3 h4 h5 hF ho
 have HP:Hid (∀(e:Ending) (W:World),(s.sent=true→e=.returned (.tuple #[.string ⟨#[]⟩,.int .i64 18])∧Below w.heap.size w W)→(s.sent=false→readyS s=false→e=.returned (.tuple #[.string ⟨#[]⟩,.int .i64 22])∧Below w.heap.size w W)→
  (s.sent=false→readyS s=true→∃ps r',RunTo l (sumR r / s.k) r ps r'∧e=.returned (.tuple #[.string ⟨(ltrT (senL l s r')).toArray⟩,.int .i64 0])∧SensTo w g K l (sentS s) r' F W)→SendPost g K l s r F w e W):=LH fun e W a b c=>by
  unfold SendPost;by_cases q1:s.sent=true
  ·rw [if_pos q1];exact a q1
  ·rw [if_neg q1]
   have q1':s.sent=false:=by simpa using q1
   by_cases q2:readyS s=false
   ·rw [if_pos q2];exact b q1' q2
   ·rw [if_neg q2];exact c q1' (by simpa using q2)
 have HNS:Hid (readyS s=true→s.sent=false):=LH fun h=>by
  unfold readyS at h
  cases hs:s.sent
  ·rfl
  ·rw [hs] at h;simp at h
 obtain⟨b,hb⟩ : ∃b,b=s.sent:=⟨_,rfl⟩;rw [←hb] at cc HP;have hbh:=LH hb;clear hb
 cases b
 ·obtain⟨y,hy⟩ : ∃y,y=readyS s:=⟨_,rfl⟩
  rw [←hy] at HR HP;clear hy
  go_enter Tryz.func107,Tryz.ntmps107
  go_wp2_with fail;refine HR.out.mono ?_;rintro e w1 ⟨rfl,hb1⟩;have B1:=LH hb1;clear hb1
  cases y
  ·go_wp2_with fail
   exact bR (v:=.tuple #[.string ⟨#[]⟩,.int .i64 22]) (by simp only [results,Tryz.results107];go_simp) rfl (HP.out _ _ (fun h=>by simp at h) (fun _ _=>⟨rfl,B1.out⟩) (fun _ h=>by simp at h))
  ·have I1:=LH (HI.out.below B1.out)
   have c1:=bC I1.out;have f1:=bF I1.out;have z1:=lB I1.out;clear cc cf zb;go_wp2_with fail;refine(digest_Compress w1 dg K l s.k r F0 (HGD.out.below B1.out) (by omega)).mono ?_;rintro e w2 ⟨ps,r',rfl,hrun,hto⟩;have hto':=DigTo.from B1.out hto;have S2:=LH (HX.out w2 r' hto');have HRun:=LH hrun;have hfit2:=hrun.folded.fits hfit;have hlen2:=hrun.folded.len hfit;obtain⟨F1,hd2,ht2,hg2⟩:=hto';have I2:Hid (SenAt w2 g dg s):=LH (ht2.keep HI.out HF0.out);have D2:=LH hd2;have HRt:=LH (senL_right (r:=r') HOk.out hll hfit2 hk.1 hk.2 (by omega));have hle:=HOk.out.e1;have hle0:=HOk.out.e0
   have hme:i64 s.p.me:=by
    obtain⟨n,hn,h48⟩:=isCrew_nat HOk.out.wait.2.2.1;rw [hn];constructor <;> omega
   have HEn:=LH (fun W=>letter_Encode W (senL l s r') HRt.out (by show i64 s.ep;constructor <;> omega) hme);have HWi:=LH (wire_Encode w2 dg K l s.k r' F1 hd2 (by omega))
   have HPf:Hid (∀W,Below w2.heap.size w2 W→SendPost g K l s r F w (.returned (.tuple #[.string ⟨(ltrT (senL l s r')).toArray⟩,.int .i64 0])) (W.setCell ⟨g,10,none⟩ (.bool true))):=LH fun W hb=>by
    refine HP.out _ _ (fun h=>by simp at h) (fun _ h=>by simp at h) fun _ _=>⟨ps,r',HRun.out,rfl,?_⟩;have hk:=S2.out.then_ hb;obtain⟨F',k1,k2,k3⟩:=hk;obtain⟨dg',F0',e1,e2,e3,e4,e5,e6⟩:=k1;exact⟨F',SensAt.set (s':=sentS s) e1 e2.toSent e2 e3 e4 e5 e6,k2.setCell (.inl HS.out.own) _,k3⟩
   have HEn2:Hid (∀W,Calls Tryz.prog 171 #[.agg #[.int .i64 s.ep,.int .i64 s.p.me,.int .u64 s.cover,.string ⟨(wireT l s.k r').toArray⟩]] W fun e w'=>e=.returned (.tuple #[.string ⟨(ltrT (senL l s r')).toArray⟩,.int .i64 0])∧Below W.heap.size W w'):=HEn;generalize ltrT (senL l s r') =G at HPf HEn2;generalize wireT l s.k r'=T at HWi HEn2;have c2:=bC I2.out;have f2:=bF I2.out;have z2:=lB I2.out;clear hrun hto ht2 hg2 hd2 c1 f1 z1 I1 HR HX HP S2 HRt HEn hfit2 hlen2;go_wp2_with fail;refine HWi.out.mono ?_;rintro e w3 ⟨rfl,hb3⟩;have I3:=LH (I2.out.below hb3);have B3:=LH hb3;clear hb3 c2 f2 z2;go_upto_region 9 with fail;have I3d:Hid (SenAt w3.drew g dg s):=LH I3.out;have B3d:=LH B3.out.drew;refine wp_region_noPanic ?_;refine wp_region_N (fun w'=>SenAt w' g dg s) [] (by kernel_rfl) (I3.out) (fun hHeld=> ?_);generalize w3.drew=Wd at I3d B3d hHeld⊢;refine nP 0 (Value.pointer (some ⟨g,0,none⟩)) (h:= ?_)
   (try simp only [zA,zB,zC,Act.put,zD,zE,zF])
   refine nP 1 (Value.pointer (some ⟨g,0,none⟩)) (h:= ?_)
   (try simp only [zA,zB,zC,Act.put,zD,zE,zF])
   refine nP 4 (Value.pointer (some ⟨g,0,none⟩)) (h:= ?_)
   (try simp only [zA,zB,zC,Act.put,zD,zE,zF])
   refine nP 5 (Value.pointer (some ⟨g,0,none⟩)) (h:= ?_)
   (try simp only [zA,zB,zC,Act.put,zD,zE,zF])
   refine nP 9 (Value.pointer (some ⟨g,0,none⟩)) (h:= ?_)
   (try simp only [zA,zB,zC,Act.put,zD,zE,zF])
   refine nP 10 (Value.pointer (some ⟨g,0,none⟩)) (h:= ?_)
   (try simp only [zA,zB,zC,Act.put,zD,zE,zF])
   refine nP 2 (Value.pointer (some ⟨g,6,none⟩)) (h:= ?_)
   (try simp only [zA,zB,zC,Act.put,zD,zE,zF])
   refine nP 6 (Value.pointer (some ⟨g,3,none⟩)) (h:= ?_)
   (try simp only [zA,zB,zC,Act.put,zD,zE,zF])
   refine nP 7 (Value.pointer (some ⟨g,3,none⟩)) (h:= ?_)
   (try simp only [zA,zB,zC,Act.put,zD,zE,zF])
   refine nP 11 (Value.pointer (some ⟨g,9,none⟩)) (h:= ?_)
   (try simp only [zA,zB,zC,Act.put,zD,zE,zF])
   refine nT 3 (Value.int .i64 s.ep) (y:=Or.inl ⟨by rfl,fun W hW=>by have q1:=bC hW;have q2:=lB hW;go_simp⟩) (s:=I3d.out) (h:= ?_)
   (try simp only [zA,zB,zC,Act.put,zD,zE,zF])
   refine nT 8 (Value.int .i64 s.p.me) (y:=Or.inl ⟨by rfl,fun W hW=>by have q1:=bC hW;have q2:=lB hW;go_simp⟩) (s:=I3d.out) (h:= ?_)
   (try simp only [zA,zB,zC,Act.put,zD,zE,zF])
   refine nT 12 (Value.int .u64 s.cover) (y:=Or.inl ⟨by rfl,fun W hW=>by have q1:=bC hW;have q2:=lB hW;go_simp⟩) (s:=I3d.out) (h:= ?_)
   (try simp only [zA,zB,zC,Act.put,zD,zE,zF])
   refine nP 13 (Value.string ⟨T.toArray⟩) (h:= ?_)
   (try simp only [zA,zB,zC,Act.put,zD,zE,zF])
   refine nP 14 (Value.agg #[.int .i64 s.ep,.int .i64 s.p.me,.int .u64 s.cover,.string ⟨T.toArray⟩]) (h:= ?_)
   (try simp only [zA,zB,zC,Act.put,zD,zE,zF])
   refine nO (i:=15) (by kernel_rfl) rfl (fun K hK=> ?_);go_simp;refine(HEn2.out _).mono ?_;rintro e w4 ⟨rfl,hb4⟩;have I4:=LH (I3d.out.below hb4);have B4:=LH (Below.then_ B3d.out hb4);clear hb4;refine hK.out _ _ (fun _ _=>I4.out) ?_;clear hK K
   (try simp only [zA,zB,zC,Act.put,zD,zE,zF])
   refine nP 16 (Value.tuple #[.string ⟨G.toArray⟩,.int .i64 0]) (h:= ?_)
   (try simp only [zA,zB,zC,Act.put,zD,zE,zF])
   refine nP 17 (Value.string ⟨G.toArray⟩) (h:= ?_)
   (try simp only [zA,zB,zC,Act.put,zD,zE,zF])
   refine nP 18 (Value.int .i64 0) (h:= ?_)
   (try simp only [zA,zB,zC,Act.put,zD,zE,zF])
   refine nP 19 (Value.string ⟨G.toArray⟩) (h:= ?_)
   (try simp only [zA,zB,zC,Act.put,zD,zE,zF])
   refine nO (i:=20) (by kernel_rfl) rfl (fun K hK=> ?_);go_simp;refine hK.out _ _ (fun _ _=>I4.out) ?_;clear hK K
   (try simp only [zA,zB,zC,Act.put,zD,zE,zF])
   refine nD (by kernel_rfl) ?_ _;refine NoPanic.normal ?_;have c4:=bC I4.out;have f4:=bF I4.out;have z4:=lB I4.out;clear I3 B3 I2;go_wp2_with fail;exact bR (v:=.tuple #[.string ⟨G.toArray⟩,.int .i64 0]) (by simp only [results,Tryz.results107];go_simp) rfl (HPf.out _ B4.out)
 ·go_enter Tryz.func107,Tryz.ntmps107
  go_wp2_with fail;exact bR (v:=.tuple #[.string ⟨#[]⟩,.int .i64 18]) (by simp only [results,Tryz.results107];go_simp) rfl (HP.out _ _ (fun _=>⟨rfl,bE⟩) (fun h=>by simp at h) (fun h=>by simp at h))
def SensIn (w:World) (g K l:Nat) (s:Sen) (r:List Nd) (W:World) :Prop:=∃F,SensAt W g K l s r F∧(∀b,F b→w.heap.size≤b)∧Below w.heap.size w W
section
variable {w W W':World} {g K l:Nat} {s s':Sen} {r r':List Nd}
def SendIn (w:World) (g K l:Nat) (s:Sen) (r:List Nd) (e:Ending) (W':World) :Prop:=
 if s.sent=true then e=.returned (.tuple #[.string ⟨#[]⟩,.int .i64 18])∧SensIn w g K l s r W'
 else if readyS s=false then e=.returned (.tuple #[.string ⟨#[]⟩,.int .i64 22])∧SensIn w g K l s r W'
 else ∃ps r',RunTo l (sumR r / s.k) r ps r'∧e=.returned (.tuple #[.string ⟨(ltrT (senL l s r')).toArray⟩,.int .i64 0])∧SensIn w g K l (sentS s) r' W'
end
def NewIn (w:World) (K l:Nat) (s:Sen) (e:Ending) (W':World) :Prop:=∃g,e=.returned (.tuple #[.pointer (some ⟨g,0,none⟩),.int .i64 0])∧SensIn w g K l s [] W'
def exS (n:Nat) :Sen:=⟨3,2,2,⟨0,2,5⟩,0,n,0,1,false⟩
def refC (s:Sen) (A:Option Addr) (n c:Nat) :Array Value:= #[.int .i64 s.l,.int .i64 s.k,.int .i64 s.kd,.int .i64 s.p.me,.int .i64 s.p.wait,.int .u64 s.p.kids,.int .i64 s.ep,.int .i64 s.ti,.int .u64 s.heard,.int .u64 s.cover,.bool s.sent,.int .i64 s.k,.int .i64 s.l,.slice A n c]
def refV (s:Sen) (A:Option Addr) (n c:Nat) :Value:=.agg (refC s A n c)
def RefAt (W:World) (g:Nat) (s:Sen) (A:Option Addr) (n c:Nat) :Prop:=W.heap[g]? =some (.cells (refC s A n c) 135 (0,0))
structure LikeS (w:World) (g K l:Nat) (s:Sen) (r:List Nd) (F:Nat→Prop) (A:Option Addr) (c:Nat) (W:World) :Prop where
 sa:SensAt W g K l s r F
 b:W.heap[w.heap.size]? =some (.cells #[.int .i64 s.l,.int .i64 s.k,.int .i64 s.kd,.int .i64 s.p.me,.int .i64 s.p.wait,.int .u64 s.p.kids,.int .i64 s.ep,.int .i64 s.ti,.int .u64 s.heard,.int .u64 s.cover,.bool s.sent,.int .i64 s.k,.int .i64 s.l,.slice A r.length c] 135 (0,0))
 p:W.heap[w.heap.size+1]? =some (.cells #[.int .i64 s.p.me,.int .u64 s.p.kids,.int .i64 s.p.wait] 144 (0,0))
 o:Sl W W.heap.size encN A r
 le:Below w.heap.size w W
structure LikeD (w:World) (g K l:Nat) (s:Sen) (r:List Nd) (F:Nat→Prop) (A:Option Addr) (c dg:Nat) (F':Nat→Prop) (W:World) :Prop where
 a:LikeS w g K l s r F A c W
 d:DigAt W dg K l s.k r F'
theorem crew_Apart (w:World) (a b:Nat) (ha:a<2^64) (hb:b<2^64) :Calls Tryz.prog 181 #[.int .u64 a,.int .u64 b] w fun e w'=>e=.returned (.bool (apartC a b))∧Below w.heap.size w w':=by
 have h:=(bits_nat .u64 64 (by decide) (fun n h0 h1=>wrap_u64s h0 h1) a b ha hb).1
 have e:apartC a b= (((a &&& b:Nat) :Int) == 0):=by
  unfold apartC;rw [Bool.eq_iff_iff];simp
 rw [e];generalize ((a &&& b:Nat) :Int) =z at h⊢;clear ha hb e
 go_enter Tryz.func181,Tryz.ntmps181
 go_wp2_with fail;exact bR (v:=.bool (z == 0)) (by simp only [results,Tryz.results181];go_simp) rfl ⟨rfl,Below.refl _ _⟩
def encU:Enc Nat 1:=⟨fun x=> [.int .u64 (x:Int)],fun _=>rfl,by intro x u hu;simp at hu;subst hu;rfl⟩
theorem sensor_refused (w:World) (g dg:Nat) (s:Sen) (x:Ltr) (h:SenAt w g dg s) (h1:s.p.kids<2^64) (h2:s.heard<2^64) (h3:s.cover<2^64) (h4:x.c<2^64) :
 Calls Tryz.prog 116 #[.pointer (some ⟨g,0,none⟩),ltrV x] w fun e w'=>e=.returned (.int .i64 (refusedE s x))∧Below w.heap.size w w':=by
 have HH1:=LH (fun W=>crew_Has s.p.kids x.f h1 W);have HH2:=LH (fun W=>crew_Has s.heard x.f h2 W);have HA:=LH (fun W=>crew_Apart W s.cover x.c h3 h4);have L0:Hid ((w.alloc (.cells #[.int .i64 x.e,.int .i64 x.f,.int .u64 x.c,.string ⟨x.b.toArray⟩] 183)).heap[w.heap.size]? =some (.cells #[.int .i64 x.e,.int .i64 x.f,.int .u64 x.c,.string ⟨x.b.toArray⟩] 183 (0,0))):=LH (heap_alloc_new w _);have S0:=LH (h.below ((Below.refl w.heap.size w).alloc (Nat.le_refl _) (.cells #[.int .i64 x.e,.int .i64 x.f,.int .u64 x.c,.string ⟨x.b.toArray⟩] 183)));have BW0:Hid (Below w.heap.size w (w.alloc (.cells #[.int .i64 x.e,.int .i64 x.f,.int .u64 x.c,.string ⟨x.b.toArray⟩] 183))):=LH bE;obtain⟨E,hE⟩ : ∃E,E=refusedE s x:=⟨_,rfl⟩;rw [←hE];unfold refusedE at hE;unfold SenAt at S0;unfold ltrV;obtain⟨l,k,kd,⟨me,kids,wait⟩,ep,ti,hd,cv,st⟩:=s;obtain⟨xe,xf,xc,xb⟩:=x;dsimp only at*;have HE:=LH hE;clear h h1 h2 h3 h4 hE;generalize hasC kids xf=z1 at HH1 HE;generalize hasC hd xf=z2 at HH2 HE;generalize apartC cv xc=z3 at HA HE
 go_enter Tryz.func116,Tryz.ntmps116
 go_upto_region 1 with fail;generalize w.alloc (.cells #[.int .i64 xe,.int .i64 xf,.int .u64 xc,.string ⟨xb.toArray⟩] 183) =W0 at L0 S0 BW0⊢;by_cases q1:xe=ep
 case neg=>
  have q1i: (xe == ep) =false:=by simpa using q1
  have Q1:=LH q1;clear q1;have cg:=bC S0.out;have zg:=lB S0.out;have cx:=bC L0.out;have zx:=lB L0.out;refine rX (by kernel_rfl) (by kernel_rfl) ?_
  repeat (go_big_quiet_step (fail))
  refine wpQuiet_nil ?_;intro W1 hbq;replace hbq:=bX hbq;have S1:=LH (bB S0.out hbq);have L1:=LH (bB L0.out hbq);have BW1:=LH (Below.then_ BW0.out hbq);clear hbq cg zg cx zx S0 L0 BW0;go_wp2_with fail;exact bR (v:=.int .i64 17) (by simp only [results,Tryz.results116];go_simp) rfl ⟨by rw [HE.out];rw [if_pos Q1.out],BW1.out⟩
 subst q1;rw [if_neg (by simp)] at HE;have cg:=bC S0.out;have zg:=lB S0.out;have cx:=bC L0.out;have zx:=lB L0.out;refine rX (by kernel_rfl) (by kernel_rfl) ?_
 repeat (go_big_quiet_step (fail))
 refine wpQuiet_nil ?_;intro W1 hbq;replace hbq:=bX hbq;have S1:=LH (bB S0.out hbq);have L1:=LH (bB L0.out hbq);have BW1:=LH (Below.then_ BW0.out hbq);clear hbq cg zg cx zx S0 L0 BW0
 cases z1
 case false=>
  go_upto_region 3 with fail;have cg:=bC S1.out;have zg:=lB S1.out;have cx:=bC L1.out;have zx:=lB L1.out;refine rX (by kernel_rfl) (by kernel_rfl) ?_
  repeat (go_big_quiet_step (first
   | (go_at_call 99;exact quiet_ext (HH1.out _))))
  refine wpQuiet_nil ?_;intro W2 hbq;replace hbq:=bX hbq;have S2:=LH (bB S1.out hbq);have L2:=LH (bB L1.out hbq);have BW2:=LH (Below.then_ BW1.out hbq);clear hbq cg zg cx zx S1 L1 BW1;go_wp2_with fail;exact bR (v:=.int .i64 16) (by simp only [results,Tryz.results116];go_simp) rfl ⟨by rw [HE.out];simp,BW2.out⟩
 case true=>
  rw [if_neg (by simp)] at HE;go_upto_region 3 with fail;have cg:=bC S1.out;have zg:=lB S1.out;have cx:=bC L1.out;have zx:=lB L1.out;refine rX (by kernel_rfl) (by kernel_rfl) ?_
  repeat (go_big_quiet_step (first
   | (go_at_call 99;exact quiet_ext (HH1.out _))))
  refine wpQuiet_nil ?_;intro W2 hbq;replace hbq:=bX hbq;have S2:=LH (bB S1.out hbq);have L2:=LH (bB L1.out hbq);have BW2:=LH (Below.then_ BW1.out hbq);clear hbq cg zg cx zx S1 L1 BW1;go_upto_region 5 with fail
  cases st
  case true=>
   have cg:=bC S2.out;have zg:=lB S2.out;go_wp2_with fail;exact bR (v:=.int .i64 18) (by simp only [results,Tryz.results116];go_simp) rfl ⟨by rw [HE.out];simp,BW2.out⟩
  case false=>
   rw [if_neg (by simp)] at HE;have cg:=bC S2.out;have zg:=lB S2.out;go_upto_region 7 with fail;clear cg zg
   cases z2
   case true=>
    have cg:=bC S2.out;have zg:=lB S2.out;have cx:=bC L2.out;have zx:=lB L2.out;refine rX (by kernel_rfl) (by kernel_rfl) ?_
    repeat (go_big_quiet_step (first
     | (go_at_call 99;exact quiet_ext (HH2.out _))
     | (go_at_call 181;exact quiet_ext (HA.out _))))
    refine wpQuiet_nil ?_;intro W3 hbq;replace hbq:=bX hbq;have S3:=LH (bB S2.out hbq);have L3:=LH (bB L2.out hbq);have BW3:=LH (Below.then_ BW2.out hbq);clear hbq cg zg cx zx S2 L2 BW2;go_wp2_with fail;exact bR (v:=.int .i64 19) (by simp only [results,Tryz.results116];go_simp) rfl ⟨by rw [HE.out];simp,BW3.out⟩
   case false=>
    have cg:=bC S2.out;have zg:=lB S2.out;have cx:=bC L2.out;have zx:=lB L2.out;refine rX (by kernel_rfl) (by kernel_rfl) ?_
    repeat (go_big_quiet_step (first
     | (go_at_call 99;exact quiet_ext (HH2.out _))
     | (go_at_call 181;exact quiet_ext (HA.out _))))
    refine wpQuiet_nil ?_;intro W3 hbq;replace hbq:=bX hbq;have S3:=LH (bB S2.out hbq);have L3:=LH (bB L2.out hbq);have BW3:=LH (Below.then_ BW2.out hbq);clear hbq cg zg cx zx S2 L2 BW2
    cases z3
    case false=>
     go_wp2_with fail;exact bR (v:=.int .i64 19) (by simp only [results,Tryz.results116];go_simp) rfl ⟨by rw [HE.out];simp,BW3.out⟩
    case true=>
     go_wp2_with fail;exact bR (v:=.int .i64 0) (by simp only [results,Tryz.results116];go_simp) rfl ⟨by rw [HE.out];simp,BW3.out⟩
def MorePost (K l:Nat) (k:Int) (r:List Nd) (m: (Nat×Int×Int×List Nd)×Int) (w:World) (e:Ending) (w':World) :Prop:=
 (moreE l k r m≠0∧e=.returned (.tuple #[.pointer none,.int .i64 (moreE l k r m)])∧Below w.heap.size w w')∨(moreE l k r m=0∧MergePost l K k r m.1.2.2.2 w e w')
theorem sensor_more (w:World) (g K l:Nat) (s:Sen) (r:List Nd) (F:Nat→Prop) (body:List UInt8) (h:SensAt w g K l s r F) (hL:lightOf l r s.k=true) (hn:r.length≤33554430) (hb:body.length≤8000000) :
 Calls Tryz.prog 118 #[.pointer (some ⟨g,0,none⟩),.string ⟨body.toArray⟩] w (MorePost K l s.k r (readW body) w):=by
 obtain⟨dg,F0,hF,hS,hsl,hkd,hD,hng⟩:=h;have HDg:=LH hD;have hll:=hD.l_le;have hk:1≤s.k∧s.k≤1048576:=by obtain⟨p,F0,_,_,_,_,h1,h2⟩:=hD.parts;exact⟨h1,h2⟩
 have HIs:=LH (dig_is hD hk.1 (Int.le_refl _));have HFt:=LH hD.fits;have S0:=LH hS;have HPk:=LH (fun W=>wire_Peek W body hb);have HDc:=LH (fun W h=>wire_Decode W body K hb h);have HOk:=LH (fun h=>readW_ok body h);have HL:=LH hL;unfold PeekPost at HPk;unfold DecPost at HDc;have HP:Hid (∀e w',((moreE l s.k r (readW body)≠0∧e=.returned (.tuple #[.pointer none,.int .i64 (moreE l s.k r (readW body))])∧Below w.heap.size w w')∨(moreE l s.k r (readW body) =0∧MergePost l K s.k r (readW body).1.2.2.2 w e w'))→MorePost K l s.k r (readW body) w e w'):=LH fun _ _ h=>h;clear hF hS hD hng hL;generalize readW body=M at HPk HDc HOk HP;obtain⟨⟨l2,k2,n2,r2⟩,e2⟩:=M;unfold SenAt at S0;obtain⟨sl,sk,sK,⟨me,kids,wait⟩,ep,ti,hd,cv,st⟩:=s;dsimp only at*;obtain rfl:=hsl;obtain rfl:=hkd;obtain⟨E,hE⟩ : ∃E,E=moreE l sk r ((l2,k2,n2,r2),e2):=⟨_,rfl⟩;rw [←hE] at HP;unfold moreE at hE;dsimp only at hE;have HE:=LH hE;clear hE
 go_enter Tryz.func118,Tryz.ntmps118
 go_wp2_with fail;refine(HPk.out w).mono ?_;rintro en w1 ⟨rfl,hb1⟩;have al:=hb1.trans (((Below.refl w1.heap.size w1).alloc (Nat.le_refl _) (.cells #[.int .i64 l2,.int .i64 k2,.int .i64 0] 24)).mono hb1.size);have S2:=LH (bB S0.out al);have D2:=LH (HDg.out.below al);have B2:=LH al;have C2:=LH (heap_alloc_new w1 (.cells #[.int .i64 l2,.int .i64 k2,.int .i64 0] 24));clear hb1 al S0 HDg HPk;go_upto_region 2 with fail;obtain⟨pc,hpc⟩ : ∃q,q=w1.heap.size:=⟨_,rfl⟩;rw [←hpc] at C2⊢;generalize w1.alloc (.cells #[.int .i64 l2,.int .i64 k2,.int .i64 0] 24) =w2 at S2 D2 B2 C2⊢;clear hpc;by_cases h0:e2=0
 case neg=>
  have h0i: (e2 == 0) =false:=by simpa using h0
  have HE2:Hid (E=e2):=LH (HE.out.trans (if_pos h0));have H0:=LH h0;clear h0;go_wp2_with fail;exact bR (v:=.tuple #[.pointer none,.int .i64 e2]) (by simp only [results,Tryz.results118];go_simp) rfl (HP.out _ _ (.inl ⟨by rw [HE2.out];exact H0.out,by rw [HE2.out],B2.out⟩))
 have HE1:=LH (HE.out.trans (if_neg (by simpa using h0)));subst h0;clear HE;have ok:=LH (HOk.out rfl);go_upto_region 4 with fail;have cg:=bC S2.out;have zg:=lB S2.out;have cc:=bC C2.out;have zc:=lB C2.out;by_cases h1:l2=l
 case neg=>
  have h1i: ((l2:Int) == (l:Int)) =false:=by simp;omega
  have h1j: (l2 == l) =false:=by simpa using h1
  have h1k: ((l2:Int) != (l:Int)) =true:=by simp;omega
  have HE2:=LH (HE1.out.trans (if_pos (.inl h1)));clear h1;refine rX (by kernel_rfl) (by kernel_rfl) ?_
  repeat (go_big_quiet_step (fail))
  refine wpQuiet_nil ?_;intro w3 hbq;replace hbq:=bX hbq;have B3:=LH (Below.then_ B2.out hbq);clear hbq;go_wp2_with fail;exact bR (v:=.tuple #[.pointer none,.int .i64 6]) (by simp only [results,Tryz.results118];go_simp) rfl (HP.out _ _ (.inl ⟨by rw [HE2.out];decide,by rw [HE2.out],B3.out⟩))
 subst h1;by_cases h2:k2=sk
 case neg=>
  have h2i: (k2 == sk) =false:=by simpa using h2
  have HE2:=LH (HE1.out.trans (if_pos (.inr h2)));clear h2;refine rX (by kernel_rfl) (by kernel_rfl) ?_
  repeat (go_big_quiet_step (fail))
  refine wpQuiet_nil ?_;intro w3 hbq;replace hbq:=bX hbq;have B3:=LH (Below.then_ B2.out hbq);clear hbq;go_wp2_with fail;exact bR (v:=.tuple #[.pointer none,.int .i64 6]) (by simp only [results,Tryz.results118];go_simp) rfl (HP.out _ _ (.inl ⟨by rw [HE2.out];decide,by rw [HE2.out],B3.out⟩))
 subst h2;have HE3:=LH (HE1.out.trans (if_neg (by simp)));clear HE1;refine rX (by kernel_rfl) (by kernel_rfl) ?_
 repeat (go_big_quiet_step (fail))
 refine wpQuiet_nil ?_;intro w3 hbq;replace hbq:=bX hbq;have B3:=LH (Below.then_ B2.out hbq);have S3:=LH (bB S2.out hbq);have D3:=LH (D2.out.below hbq);clear hbq S2 D2 B2 C2 cg zg cc zc;have cg:=bC S3.out;have zg:=lB S3.out;have HD0:=LH (HDc.out w3 (fun _=>by have:=HIs.out;unfold isDig at this;simp only [Bool.and_eq_true] at this;exact this.1));unfold DigPost at HD0;clear HDc;go_wp2_with fail;refine HD0.out.mono ?_;rintro en w4 hdp
 obtain⟨g2,F2,rfl,hd4,hf4,hb4⟩ : ∃g2 F2,en=.returned (.tuple #[.pointer (some ⟨g2,0,none⟩),.int .i64 0])∧DigAt w4 g2 K l2 k2 r2 F2∧(∀b,F2 b→w3.heap.size≤b)∧Below w3.heap.size w3 w4:=by
  rcases hdp with ⟨q,_⟩ | ⟨_,q⟩
  ·exact absurd rfl q
  ·exact q
 have D4:=LH hd4;have D4a:=LH (D3.out.below hb4);have B4:=LH (Below.then_ B3.out hb4);have S4:=LH (bB S3.out hb4);clear hdp hd4 hf4 hb4 D3 B3 S3 cg zg HD0;have cg:=bC S4.out;have zg:=lB S4.out;have HnR:=LH (And.intro hn (show r2.length≤33554430 by have h5:=ok.out.len;have h6:=ok.out.k.2;dsimp only at h5 h6;omega));by_cases h5:72057594037927935<sumR r+sumR r2
 ·have HE4:=LH (HE3.out.trans (if_pos h5))
  have hbe:blendErr l2 l2 r r2=5:=by unfold blendErr;rw [if_neg (by simp),if_pos h5]
  have HMn:=LH (fun W h1 h2=>blend_Merge_no W dg K l2 k2 r F0 g2 K l2 k2 r2 F2 h1 h2 (by rw [hbe];decide));rw [hbe] at HMn;clear h5 hbe;go_wp2_with fail;refine(HMn.out w4 D4a.out D4.out).mono ?_;rintro en w5 ⟨rfl,hb5⟩;have B5:=LH (Below.then_ B4.out hb5);clear hb5 cg zg;go_wp2_with fail;exact bR (v:=.tuple #[.pointer none,.int .i64 5]) (by simp only [results,Tryz.results118];go_simp) rfl (HP.out _ _ (.inl ⟨by rw [HE4.out];decide,by rw [HE4.out],B5.out⟩))
 ·have HE4:=LH (HE3.out.trans (if_neg h5))
  have hbe:blendErr l2 l2 r r2=0:=by unfold blendErr;rw [if_neg (by simp),if_neg h5]
  have HMy:=LH (fun W h1 h2=>blend_Merge W dg K l2 k2 r F0 g2 K k2 r2 F2 h1 h2 HL.out ok.out.light hbe HnR.out.1 HnR.out.2);clear h5 hbe;rw [show min k2 k2=k2 by omega] at HMy;unfold MergePost at HMy;go_wp2_with fail;refine(HMy.out w4 D4a.out D4.out).mono ?_;rintro en w5 ⟨g5,F5,rc,rfl,hd5,hf5,hj5,hb5⟩;have R5:=LH (And.intro hd5 (And.intro (fun b h=>Nat.le_trans B4.out.size (hf5 b h)) (And.intro hj5 (Below.then_ B4.out hb5))));clear hd5 hf5 hj5 hb5 cg zg;go_wp2_with fail;exact bR (v:=.tuple #[.pointer (some ⟨g5,0,none⟩),.int .i64 0]) (by simp only [results,Tryz.results118];go_simp) rfl (HP.out _ _ (.inr ⟨by rw [HE4.out],g5,F5,rc,rfl,R5.out.1,R5.out.2.1,R5.out.2.2.1,R5.out.2.2.2⟩))
abbrev q12 (W:World) (b:Nat) (v0 v1 v2 v3 v4 v5 v6 v7 v8 v9 v10 v11:Value) :World:=((((((((((((W.setCell ⟨b,0,none⟩ v0).setCell ⟨b,1,none⟩ v1).setCell ⟨b,2,none⟩ v2).setCell ⟨b,3,none⟩ v3).setCell ⟨b,4,none⟩ v4).setCell ⟨b,5,none⟩ v5).setCell ⟨b,6,none⟩ v6).setCell ⟨b,7,none⟩ v7).setCell ⟨b,8,none⟩ v8).setCell ⟨b,9,none⟩ v9).setCell ⟨b,10,none⟩ v10).setCell ⟨b,11,none⟩ v11)
theorem q12e (W:World) (b:Nat) (v0 v1 v2 v3 v4 v5 v6 v7 v8 v9 v10 v11:Value) : ((((((((((((W.setCell ⟨b,0,none⟩ v0).setCell ⟨b,1,none⟩ v1).setCell ⟨b,2,none⟩ v2).setCell ⟨b,3,none⟩ v3).setCell ⟨b,4,none⟩ v4).setCell ⟨b,5,none⟩ v5).setCell ⟨b,6,none⟩ v6).setCell ⟨b,7,none⟩ v7).setCell ⟨b,8,none⟩ v8).setCell ⟨b,9,none⟩ v9).setCell ⟨b,10,none⟩ v10).setCell ⟨b,11,none⟩ v11) =q12 W b v0 v1 v2 v3 v4 v5 v6 v7 v8 v9 v10 v11:=rfl
theorem store12 {W:World} {b t:Nat} {z0 z1 z2 z3 z4 z5 z6 z7 z8 z9 z10 z11:Value} (h:W.heap[b]? =some (.cells #[z0,z1,z2,z3,z4,z5,z6,z7,z8,z9,z10,z11] t (0,0))) (v0 v1 v2 v3 v4 v5 v6 v7 v8 v9 v10 v11:Value) : (q12 W b v0 v1 v2 v3 v4 v5 v6 v7 v8 v9 v10 v11).heap[b]? =some (.cells #[v0,v1,v2,v3,v4,v5,v6,v7,v8,v9,v10,v11] t (0,0)):=by
 have h0: (W.setCell ⟨b,0,none⟩ v0).heap[b]? =some (.cells #[v0,z1,z2,z3,z4,z5,z6,z7,z8,z9,z10,z11] t (0,0)):=zH (i:=0) h v0;have h1: ((W.setCell ⟨b,0,none⟩ v0).setCell ⟨b,1,none⟩ v1).heap[b]? =some (.cells #[v0,v1,z2,z3,z4,z5,z6,z7,z8,z9,z10,z11] t (0,0)):=zH (i:=1) h0 v1;have h2: (((W.setCell ⟨b,0,none⟩ v0).setCell ⟨b,1,none⟩ v1).setCell ⟨b,2,none⟩ v2).heap[b]? =some (.cells #[v0,v1,v2,z3,z4,z5,z6,z7,z8,z9,z10,z11] t (0,0)):=zH (i:=2) h1 v2;have h3: ((((W.setCell ⟨b,0,none⟩ v0).setCell ⟨b,1,none⟩ v1).setCell ⟨b,2,none⟩ v2).setCell ⟨b,3,none⟩ v3).heap[b]? =some (.cells #[v0,v1,v2,v3,z4,z5,z6,z7,z8,z9,z10,z11] t (0,0)):=zH (i:=3) h2 v3;have h4: (((((W.setCell ⟨b,0,none⟩ v0).setCell ⟨b,1,none⟩ v1).setCell ⟨b,2,none⟩ v2).setCell ⟨b,3,none⟩ v3).setCell ⟨b,4,none⟩ v4).heap[b]? =some (.cells #[v0,v1,v2,v3,v4,z5,z6,z7,z8,z9,z10,z11] t (0,0)):=zH (i:=4) h3 v4;have h5: ((((((W.setCell ⟨b,0,none⟩ v0).setCell ⟨b,1,none⟩ v1).setCell ⟨b,2,none⟩ v2).setCell ⟨b,3,none⟩ v3).setCell ⟨b,4,none⟩ v4).setCell ⟨b,5,none⟩ v5).heap[b]? =some (.cells #[v0,v1,v2,v3,v4,v5,z6,z7,z8,z9,z10,z11] t (0,0)):=zH (i:=5) h4 v5;have h6: (((((((W.setCell ⟨b,0,none⟩ v0).setCell ⟨b,1,none⟩ v1).setCell ⟨b,2,none⟩ v2).setCell ⟨b,3,none⟩ v3).setCell ⟨b,4,none⟩ v4).setCell ⟨b,5,none⟩ v5).setCell ⟨b,6,none⟩ v6).heap[b]? =some (.cells #[v0,v1,v2,v3,v4,v5,v6,z7,z8,z9,z10,z11] t (0,0)):=zH (i:=6) h5 v6;have h7: ((((((((W.setCell ⟨b,0,none⟩ v0).setCell ⟨b,1,none⟩ v1).setCell ⟨b,2,none⟩ v2).setCell ⟨b,3,none⟩ v3).setCell ⟨b,4,none⟩ v4).setCell ⟨b,5,none⟩ v5).setCell ⟨b,6,none⟩ v6).setCell ⟨b,7,none⟩ v7).heap[b]? =some (.cells #[v0,v1,v2,v3,v4,v5,v6,v7,z8,z9,z10,z11] t (0,0)):=zH (i:=7) h6 v7;have h8: (((((((((W.setCell ⟨b,0,none⟩ v0).setCell ⟨b,1,none⟩ v1).setCell ⟨b,2,none⟩ v2).setCell ⟨b,3,none⟩ v3).setCell ⟨b,4,none⟩ v4).setCell ⟨b,5,none⟩ v5).setCell ⟨b,6,none⟩ v6).setCell ⟨b,7,none⟩ v7).setCell ⟨b,8,none⟩ v8).heap[b]? =some (.cells #[v0,v1,v2,v3,v4,v5,v6,v7,v8,z9,z10,z11] t (0,0)):=zH (i:=8) h7 v8;have h9: ((((((((((W.setCell ⟨b,0,none⟩ v0).setCell ⟨b,1,none⟩ v1).setCell ⟨b,2,none⟩ v2).setCell ⟨b,3,none⟩ v3).setCell ⟨b,4,none⟩ v4).setCell ⟨b,5,none⟩ v5).setCell ⟨b,6,none⟩ v6).setCell ⟨b,7,none⟩ v7).setCell ⟨b,8,none⟩ v8).setCell ⟨b,9,none⟩ v9).heap[b]? =some (.cells #[v0,v1,v2,v3,v4,v5,v6,v7,v8,v9,z10,z11] t (0,0)):=zH (i:=9) h8 v9;have h10: (((((((((((W.setCell ⟨b,0,none⟩ v0).setCell ⟨b,1,none⟩ v1).setCell ⟨b,2,none⟩ v2).setCell ⟨b,3,none⟩ v3).setCell ⟨b,4,none⟩ v4).setCell ⟨b,5,none⟩ v5).setCell ⟨b,6,none⟩ v6).setCell ⟨b,7,none⟩ v7).setCell ⟨b,8,none⟩ v8).setCell ⟨b,9,none⟩ v9).setCell ⟨b,10,none⟩ v10).heap[b]? =some (.cells #[v0,v1,v2,v3,v4,v5,v6,v7,v8,v9,v10,z11] t (0,0)):=zH (i:=10) h9 v10;have h11: ((((((((((((W.setCell ⟨b,0,none⟩ v0).setCell ⟨b,1,none⟩ v1).setCell ⟨b,2,none⟩ v2).setCell ⟨b,3,none⟩ v3).setCell ⟨b,4,none⟩ v4).setCell ⟨b,5,none⟩ v5).setCell ⟨b,6,none⟩ v6).setCell ⟨b,7,none⟩ v7).setCell ⟨b,8,none⟩ v8).setCell ⟨b,9,none⟩ v9).setCell ⟨b,10,none⟩ v10).setCell ⟨b,11,none⟩ v11).heap[b]? =some (.cells #[v0,v1,v2,v3,v4,v5,v6,v7,v8,v9,v10,v11] t (0,0)):=zH (i:=11) h10 v11;exact h11
theorem store12_other {W:World} {b q:Nat} (h:q≠b) (v0 v1 v2 v3 v4 v5 v6 v7 v8 v9 v10 v11:Value) : (q12 W b v0 v1 v2 v3 v4 v5 v6 v7 v8 v9 v10 v11).heap[q]? =W.heap[q]? :=
 (Below.heap_setCell _ _ _ _ h).trans ((Below.heap_setCell _ _ _ _ h).trans ((Below.heap_setCell _ _ _ _ h).trans ((Below.heap_setCell _ _ _ _ h).trans ((Below.heap_setCell _ _ _ _ h).trans ((Below.heap_setCell _ _ _ _ h).trans ((Below.heap_setCell _ _ _ _ h).trans ((Below.heap_setCell _ _ _ _ h).trans ((Below.heap_setCell _ _ _ _ h).trans ((Below.heap_setCell _ _ _ _ h).trans ((Below.heap_setCell _ _ _ _ h).trans ((Below.heap_setCell _ _ _ _ h).trans (rfl))))))))))))
theorem store12_turn {F:Nat→Prop} {w W:World} {b:Nat} (h:Turn F w W) (hb:F b) (v0 v1 v2 v3 v4 v5 v6 v7 v8 v9 v10 v11:Value) :Turn F w (q12 W b v0 v1 v2 v3 v4 v5 v6 v7 v8 v9 v10 v11):=by
 have h0:=h.setCell (p:=⟨b,0,none⟩) (.inl hb) v0;have h1:=h0.setCell (p:=⟨b,1,none⟩) (.inl hb) v1;have h2:=h1.setCell (p:=⟨b,2,none⟩) (.inl hb) v2;have h3:=h2.setCell (p:=⟨b,3,none⟩) (.inl hb) v3;have h4:=h3.setCell (p:=⟨b,4,none⟩) (.inl hb) v4;have h5:=h4.setCell (p:=⟨b,5,none⟩) (.inl hb) v5;have h6:=h5.setCell (p:=⟨b,6,none⟩) (.inl hb) v6;have h7:=h6.setCell (p:=⟨b,7,none⟩) (.inl hb) v7;have h8:=h7.setCell (p:=⟨b,8,none⟩) (.inl hb) v8;have h9:=h8.setCell (p:=⟨b,9,none⟩) (.inl hb) v9;have h10:=h9.setCell (p:=⟨b,10,none⟩) (.inl hb) v10;have h11:=h10.setCell (p:=⟨b,11,none⟩) (.inl hb) v11;exact h11
theorem crew_Union2 (w:World) (base:Nat) (v:Value) (a b:Nat) (ho:Own w base 47 encU v [a,b]) (ha:a<2^64) (hb:b<2^64) :Calls Tryz.prog 119 #[v] w fun e w'=>e=.returned (.int .u64 ((a ||| b:Nat) :Int))∧Below w.heap.size w w':=by
 obtain⟨A,c,rfl,_⟩:=ho.form;have HO:=LH (ho.base_le (Nat.zero_le _));have h1:=(bits_nat .u64 64 (by decide) (fun n h0 h1=>wrap_u64s h0 h1) 0 a (by decide) ha).2;have h2:=(bits_nat .u64 64 (by decide) (fun n h0 h1=>wrap_u64s h0 h1) a b ha hb).2;rw [Nat.zero_or] at h1;have H1:=LH h1;have H2:=LH h2;clear ho h1 h2
 go_enter Tryz.func119,Tryz.ntmps119
 go_wp2_with fail
 go_loopw [3,8] (fun u j wr=>∃q:Nat,j=.int .i64 q∧q≤2∧u=.int .u64 ((if q=0 then 0 else if q=1 then a else a ||| b:Nat) :Int)∧Below w.heap.size w wr) (fun _ j _=>2 - (intOf j).toNat)
 case atStart=>exact⟨0,rfl,by omega,rfl,Below.refl _ _⟩
 case round=>
  obtain⟨q,rfl,hq,rfl,hB⟩:=hrel;have HB:=LH hB;have HR:=LH (HO.out.below hB);clear hB
  match q,hq with
  |0,_=>
   obtain⟨bb,off,rfl,hbb,hc⟩:=HR.out.sl.at_ (k:=0) (by simp);have d0:=hc 0 (.int .u64 (a:Int)) rfl;have zb:=cell_lt d0;simp only [Nat.zero_mul,Nat.add_zero] at d0;have h1:bits .or .u64 0 (a:Int) =a:=H1.out;clear hc;go_wp2_with fail;go_roundw
   case rel=>exact⟨1,by go_num,by omega,by first|rfl|simp [h1] | (rw [h1];rfl) |simpa using h1,HB.out⟩
   case measure=>simp [intOf]
  |1,_=>
   obtain⟨bb,off,rfl,hbb,hc⟩:=HR.out.sl.at_ (k:=1) (by simp);have d0:=hc 0 (.int .u64 (b:Int)) rfl;have zb:=cell_lt d0;simp only [Nat.one_mul,Nat.add_zero] at d0;have h2:=H2.out;clear hc;go_wp2_with fail;go_roundw
   case rel=>exact⟨2,by go_num,by omega,by first|rfl|simp [h2] | (rw [h2];rfl),HB.out⟩
   case measure=>simp [intOf]
  |2,_=>
   go_wp2_with fail;exact bR (v:=.int .u64 ((a ||| b:Nat) :Int)) (by simp only [results,Tryz.results119];go_simp) rfl ⟨rfl,HB.out⟩
def NextTo (w:World) (g K l:Nat) (s:Sen) (F:Nat→Prop) (e:Ending) (w':World) :Prop:=
 (s.ep=1099511627776∧e=.returned (.int .i64 21)∧Below w.heap.size w w')∨(s.ep≠1099511627776∧e=.returned (.int .i64 0)∧SensTo w g K l (senNew s.l s.k s.kd s.p (s.ep+1)) [] F w')
theorem sensor_Next (w:World) (g K l:Nat) (s:Sen) (r:List Nd) (F:Nat→Prop) (h:SensAt w g K l s r F) (ho:SenOk s) :
 Calls Tryz.prog 68 #[.pointer (some ⟨g,0,none⟩)] w (NextTo w g K l s F):=by
 obtain⟨dg,F0,hF,hS,hsl,hkd,hD,hng⟩:=h;have hk:1≤s.k∧s.k≤1048576:=by obtain⟨p,F0,_,_,_,_,h1,h2⟩:=hD.parts;exact⟨h1,h2⟩
 have HIs:=LH (dig_is hD hk.1 (Int.le_refl _));have hkids:=ho.kids;have e0:=ho.e0;have e1:=ho.e1;have HOp:=LH ho.p;have HFg:=LH (show F g by rw [hF];exact .inl rfl);have S0:=LH hS;clear hF hS hD hng hk ho;unfold SenAt at S0;obtain⟨sl,sk,sK,⟨me,kids,wait⟩,ep,ti,hd,cv,st⟩:=s;dsimp only at*;obtain rfl:=hsl;obtain rfl:=hkd;have hgw:=lB S0.out;have HP:Hid (∀e w',NextTo w g K l ⟨l,sk,K,⟨me,kids,wait⟩,ep,ti,hd,cv,st⟩ F e w'→NextTo w g K l ⟨l,sk,K,⟨me,kids,wait⟩,ep,ti,hd,cv,st⟩ F e w'):=LH fun _ _ h=>h
 have HNw:=LH (fun W (hq:ep≠1099511627776)=>sensor_New W l K sk ⟨me,kids,wait⟩ (ep+1) hkids (by
  unfold newS;rw [HIs.out,HOp.out];simp
  omega))
 unfold SenPost confV plcV at HNw;dsimp only at HNw
 go_enter Tryz.func68,Tryz.ntmps68
 have cg:=bC S0.out;go_upto_region 3 with fail;by_cases hq:ep=1099511627776
 ·have hqi: (ep == 1099511627776) =true:=by simpa using hq
  have HQ:=LH hq;clear hq;go_wp2_with fail;exact bR (v:=.int .i64 21) (by simp only [results,Tryz.results68];go_simp) rfl (HP.out _ _ (.inl ⟨HQ.out,rfl,Below.refl _ _⟩))
 ·have hqi: (ep == 1099511627776) =false:=by simpa using hq
  have HQ:=LH hq;have HN2:=LH (fun W=>HNw.out W hq);clear hq HNw;have hw:wrap64 (ep+1) =ep+1:=by unfold wrap64;omega
  have hwi:IntKind.i64.wrap (ep+1) =ep+1:=by rw [IntKind.wrap_i64];omega
  go_upto_region 5 with fail;refine wp_region_noPanic ?_;refine wp_region_N (fun W=>Below w.heap.size w W) [] (by kernel_rfl) (Below.drew (Below.refl _ _)) (fun hHeld=> ?_);clear hHeld;have BW:=LH (Below.drew (Below.refl w.heap.size w));generalize w.drew=w1 at BW⊢;refine nP 0 (Value.pointer (some ⟨g,0,none⟩)) (h:= ?_)
  (try simp only [zA,zB,zC,Act.put,zD,zE,zF])
  refine nP 1 (Value.pointer (some ⟨g,0,none⟩)) (h:= ?_)
  (try simp only [zA,zB,zC,Act.put,zD,zE,zF])
  refine nP 2 (Value.pointer (some ⟨g,0,none⟩)) (h:= ?_)
  (try simp only [zA,zB,zC,Act.put,zD,zE,zF])
  refine nT 3 (Value.agg #[.int .i64 l,.int .i64 sk,.int .i64 K]) (y:=Or.inl ⟨by rfl,fun W hW=>by have q1:=bC (bB S0.out hW);have q2:=lB (bB S0.out hW);go_simp⟩) (s:=BW.out) (h:= ?_)
  (try simp only [zA,zB,zC,Act.put,zD,zE,zF])
  refine nP 4 (Value.pointer (some ⟨g,0,none⟩)) (h:= ?_)
  (try simp only [zA,zB,zC,Act.put,zD,zE,zF])
  refine nP 5 (Value.pointer (some ⟨g,0,none⟩)) (h:= ?_)
  (try simp only [zA,zB,zC,Act.put,zD,zE,zF])
  refine nP 6 (Value.pointer (some ⟨g,3,none⟩)) (h:= ?_)
  (try simp only [zA,zB,zC,Act.put,zD,zE,zF])
  refine nT 7 (Value.agg #[.int .i64 me,.int .u64 kids,.int .i64 wait]) (y:=Or.inl ⟨by rfl,fun W hW=>by have q1:=bC (bB S0.out hW);have q2:=lB (bB S0.out hW);go_simp⟩) (s:=BW.out) (h:= ?_)
  (try simp only [zA,zB,zC,Act.put,zD,zE,zF])
  refine nP 8 (Value.pointer (some ⟨g,0,none⟩)) (h:= ?_)
  (try simp only [zA,zB,zC,Act.put,zD,zE,zF])
  refine nP 9 (Value.pointer (some ⟨g,0,none⟩)) (h:= ?_)
  (try simp only [zA,zB,zC,Act.put,zD,zE,zF])
  refine nP 10 (Value.pointer (some ⟨g,6,none⟩)) (h:= ?_)
  (try simp only [zA,zB,zC,Act.put,zD,zE,zF])
  refine nT 11 (Value.int .i64 ep) (y:=Or.inl ⟨by rfl,fun W hW=>by have q1:=bC (bB S0.out hW);have q2:=lB (bB S0.out hW);go_simp⟩) (s:=BW.out) (h:= ?_)
  (try simp only [zA,zB,zC,Act.put,zD,zE,zF])
  refine nP 12 (Value.int .i64 (ep+1)) (h:= ?_)
  (try simp only [zA,zB,zC,Act.put,zD,zE,zF])
  refine nO (i:=13) (by kernel_rfl) rfl (fun K hK=> ?_);go_simp;refine(HN2.out _).mono ?_;rintro e w2 ⟨g2,F2,rfl,hs2,hn2,hb2⟩;refine hK.out _ _ (fun _ _=>Below.then_ BW.out hb2) ?_;clear hK K
  (try simp only [zA,zB,zC,Act.put,zD,zE,zF])
  refine nP 14 (Value.tuple #[Value.pointer (some ⟨g2,0,none⟩),.int .i64 0]) (h:= ?_)
  (try simp only [zA,zB,zC,Act.put,zD,zE,zF])
  refine nP 15 (Value.pointer (some ⟨g2,0,none⟩)) (h:= ?_)
  (try simp only [zA,zB,zC,Act.put,zD,zE,zF])
  refine nP 16 (Value.int .i64 0) (h:= ?_)
  (try simp only [zA,zB,zC,Act.put,zD,zE,zF])
  refine nP 17 (Value.pointer (some ⟨g2,0,none⟩)) (h:= ?_)
  (try simp only [zA,zB,zC,Act.put,zD,zE,zF])
  refine nO (i:=18) (by kernel_rfl) rfl (fun K hK=> ?_);go_simp;refine hK.out _ _ (fun _ _=>Below.then_ BW.out hb2) ?_;clear hK K
  (try simp only [zA,zB,zC,Act.put,zD,zE,zF])
  refine nD (by kernel_rfl) ?_ _;refine NoPanic.normal ?_;obtain⟨dg2,F20,hF2,hS2,hl2,hkd2,hD2,hng2⟩:=hs2;have BW2:=LH (Below.then_ BW.out hb2);have hgg:g≠g2:=fun hh=>by have:=hn2 g2 (by rw [hF2];exact .inl rfl);have:=BW.out.size;omega
  have S2:=LH hS2;unfold SenAt senNew at S2;dsimp only at S2;have HF2:=LH hF2;have HN2b:=LH hn2;have HDd:=LH hD2;have HNg:=LH hng2;have HL2:=LH hl2;have HK2:=LH hkd2;clear hF2 hn2 hS2 hD2 hng2 hl2 hkd2 hb2 hw hwi;go_upto_region 8 with fail;have cg:=bC (bB S0.out BW2.out);have zg:=lB (bB S0.out BW2.out);have cf:=bF (bB S0.out BW2.out);have c2:=bC S2.out;have z2:=lB S2.out;go_wp2_with fail;have hgF: ∀b,F20 b→w.heap.size≤b:=fun b hb=>Nat.le_trans BW.out.size (HN2b.out b (by rw [HF2.out];exact .inr hb));have hT:=LH (store12_turn (b:=g) (Turn.of_below (F:=F) BW2.out) HFg.out (.int .i64 l) (.int .i64 sk) (.int .i64 K) (.int .i64 me) (.int .u64 kids) (.int .i64 wait) (.int .i64 (ep+1)) (.int .i64 0) (.int .u64 0) (.int .u64 (withC 0 me:Nat)) (.bool false) (.pointer (some ⟨dg2,0,none⟩)));have hA:=LH (store12 (bB S0.out BW2.out) (.int .i64 l) (.int .i64 sk) (.int .i64 K) (.int .i64 me) (.int .u64 kids) (.int .i64 wait) (.int .i64 (ep+1)) (.int .i64 0) (.int .u64 0) (.int .u64 (withC 0 me:Nat)) (.bool false) (.pointer (some ⟨dg2,0,none⟩)));have hDk:=LH (HDd.out.keep (fun b hb=>store12_other (W:=w2) (b:=g) (q:=b) (by have:=hgF b hb;omega) (.int .i64 l) (.int .i64 sk) (.int .i64 K) (.int .i64 me) (.int .u64 kids) (.int .i64 wait) (.int .i64 (ep+1)) (.int .i64 0) (.int .u64 0) (.int .u64 (withC 0 me:Nat)) (.bool false) (.pointer (some ⟨dg2,0,none⟩))));exact bR (v:=.int .i64 0) (by simp only [results,Tryz.results68];go_simp) rfl (HP.out _ _ (.inr ⟨HQ.out,rfl,footP g F20,⟨dg2,F20,rfl,hA.out,rfl,rfl,hDk.out,fun hb=>by have:=hgF g hb;omega⟩,hT.out,fun b hb=>by rcases hb with rfl|hb;exact .inl HFg.out;exact .inr (hgF b hb)⟩))
def LtrB (W:World) (px:Nat) (x:Ltr) :Prop:=W.heap[px]? =some (.cells #[.int .i64 x.e,.int .i64 x.f,.int .u64 x.c,.string ⟨x.b.toArray⟩] 183 (0,0))
theorem sensor_Hear1 (W:World) (pt px pe g dg:Nat) (s:Sen) (x:Ltr) (E:Int) (ht:W.heap[pt]? =some (.cells #[.pointer (some ⟨g,0,none⟩)] 89 (0,0))) (hx:LtrB W px x) (he:W.heap[pe]? =some (.cells #[.int .i64 E] 38 (0,0)))
 (h:SenAt W g dg s) (h1:s.p.kids<2^64) (h2:s.heard<2^64) (h3:s.cover<2^64) (h4:x.c<2^64) :
 Calls Tryz.prog 115 #[.pointer (some ⟨pt,0,none⟩),.pointer (some ⟨px,0,none⟩),.pointer (some ⟨pe,0,none⟩)] W fun e w'=>e=.returned (.tuple #[])∧∃W1,Below W.heap.size W W1∧w'=W1.setCell ⟨pe,0,none⟩ (.int .i64 (refusedE s x)):=by
 have HR:=LH (sensor_refused W g dg s x h h1 h2 h3 h4);unfold ltrV at HR;have E0:=LH he;have ct:=bC ht;have zt:=lB ht;unfold LtrB at hx;have cx:=bC hx;have zx:=lB hx;clear ht hx he h
 go_enter Tryz.func115,Tryz.ntmps115
 go_wp2_with fail;refine HR.out.mono ?_;rintro en W1 ⟨rfl,hb⟩;have B:=LH hb;have ce:=bC (bB E0.out hb);have fe:=bF (bB E0.out hb);have ze:=lB (bB E0.out hb);clear hb;go_wp2_with fail
 first|go_end0|skip
 exact⟨rfl,W1,B.out,rfl⟩
def Hear2Post (K l:Nat) (k:Int) (r:List Nd) (m: (Nat×Int×Int×List Nd)×Int) (pd pe:Nat) (W:World) (e:Ending) (w':World) :Prop:=
 e=.returned (.tuple #[])∧((moreE l k r m≠0∧∃W1,Below W.heap.size W W1∧w'= (W1.setCell ⟨pd,0,none⟩ (.pointer none)).setCell ⟨pe,0,none⟩ (.int .i64 (moreE l k r m)))∨
  (moreE l k r m=0∧∃W1 gd Fd rc,DigAt W1 gd K l k rc Fd∧(∀b,Fd b→W.heap.size≤b)∧Joined l k r m.1.2.2.2 rc∧Below W.heap.size W W1∧w'= (W1.setCell ⟨pd,0,none⟩ (.pointer (some ⟨gd,0,none⟩))).setCell ⟨pe,0,none⟩ (.int .i64 0)))
theorem sensor_Hear2 (W:World) (pt px pd pe g K l:Nat) (s:Sen) (r:List Nd) (F:Nat→Prop) (x:Ltr) (V:Option Addr) (E:Int) (ht:W.heap[pt]? =some (.cells #[.pointer (some ⟨g,0,none⟩)] 89 (0,0))) (hx:LtrB W px x) (hd:W.heap[pd]? =some (.cells #[.pointer V] 45 (0,0))) (he:W.heap[pe]? =some (.cells #[.int .i64 E] 38 (0,0)))
 (hne:pd≠pe) (h:SensAt W g K l s r F) (hL:lightOf l r s.k=true) (hn:r.length≤33554430) (hb:x.b.length≤8000000) :
 Calls Tryz.prog 117 #[.pointer (some ⟨pt,0,none⟩),.pointer (some ⟨px,0,none⟩),.pointer (some ⟨pd,0,none⟩),.pointer (some ⟨pe,0,none⟩)] W (Hear2Post K l s.k r (readW x.b) pd pe W):=by
 have HR:=LH (sensor_more W g K l s r F x.b h hL hn hb);unfold MorePost at HR;unfold Hear2Post;generalize readW x.b=M at HR⊢;have E0:=LH he;have D0:=LH hd;have HNE:=LH hne;have ct:=bC ht;have zt:=lB ht;unfold LtrB at hx;have cx:=bC hx;have zx:=lB hx;obtain⟨me,hme⟩ : ∃q,q=moreE l s.k r M:=⟨_,rfl⟩;rw [←hme] at HR⊢;clear ht hx he hd h hL hme hne
 go_enter Tryz.func117,Tryz.ntmps117
 go_wp2_with fail;refine HR.out.mono ?_;rintro en W1 (⟨hm,rfl,hb⟩ | ⟨hm,gd,Fd,rc,rfl,hD,hF,hJ,hb⟩)
 ·have B:=LH hb
  have HM:=LH hm;have ce:=bC (bB E0.out hb);have fe:=bF (bB E0.out hb);have ze:=lB (bB E0.out hb);have cd:=bC (bB D0.out hb);have fd:=bF (bB D0.out hb);have zd:=lB (bB D0.out hb);have hne:=HNE.out;clear hb hm;go_wp2_with fail
  first|go_end0|skip
  exact⟨rfl,.inl ⟨HM.out,W1,B.out,rfl⟩⟩
 ·have B:=LH hb
  have HD:=LH hD;have HF:=LH hF;have HJ:=LH hJ;have HM:=LH hm;have ce:=bC (bB E0.out hb);have fe:=bF (bB E0.out hb);have ze:=lB (bB E0.out hb);have cd:=bC (bB D0.out hb);have fd:=bF (bB D0.out hb);have zd:=lB (bB D0.out hb);have hne:=HNE.out;clear hb hD hF hJ hm;go_wp2_with fail
  first|go_end0|skip
  exact⟨rfl,.inr ⟨HM.out,W1,gd,Fd,rc,HD.out,HF.out,HJ.out,B.out,rfl⟩⟩
structure EncR (w:World) (l:Nat) (k:Int) (r:List Nd) (A:Option Addr) (c:Nat) (W:World) :Prop where
 x:W.heap[w.heap.size]? =some (.cells #[.int .i64 k,.int .i64 l,.slice A r.length c] 133 (0,0))
 s:Sl W w.heap.size encN A r
 b:Below w.heap.size w W
structure SnR (w:World) (cs:Array Value) (W:World) :Prop where
 x:W.heap[w.heap.size]? =some (.cells cs 135 (0,0))
 z:W.heap[w.heap.size+1]? =some (.cells #[.int .i64 0,.int .i64 0,.int .i64 0,.int .i64 0,.int .i64 0,.int .u64 0,.int .i64 0,.int .i64 0,.int .u64 0,.int .u64 0,.bool false,.int .i64 0,.int .i64 0,.slice none 0 0] 135 (0,0))
 b:Below w.heap.size w W
def Put31Post [Zone] (l:Nat) (s:Sen) (r:List Nd) (x c:Int) (w:World) (e:Ending) (w':World) :Prop:=
 ∃(r':List Nd) (A':Option Addr) (c':Nat),e=.returned (.tuple #[refV s A' r'.length c',.int .i64 (putErr l s r x c)])∧PutTo l s r x c r'∧SlZ w' 216 encN A' r'∧Below w.heap.size w w'
def Low14Post [Zone] (l:Nat) (k2:Int) (r:List Nd) (w:World) (e:Ending) (w':World) :Prop:=
 ∃(ps:List Int) (s:List Nd) (A:Option Addr) (c:Nat),e=.returned (.tuple #[.agg #[.int .i64 k2,.int .i64 l,.slice A s.length c],.int .i64 0])∧RunTo l (sumR r / k2) r ps s∧SlZ w' 216 encN A s∧Below w.heap.size w w'
def Mrg14Post [Zone] (l:Nat) (k2:Int) (ra rb:List Nd) (w:World) (e:Ending) (w':World) :Prop:=
 ∃(rc:List Nd) (A:Option Addr) (c:Nat),e=.returned (.tuple #[.agg #[.int .i64 k2,.int .i64 l,.slice A rc.length c],.int .i64 0])∧Joined l k2 ra rb rc∧SlZ w' 216 encN A rc∧Below w.heap.size w w'
structure MgR [Zone] (w:World) (l:Nat) (ka kb:Int) (ra rb:List Nd) (A B:Option Addr) (ca cb:Nat) (W:World) :Prop where
 x:W.heap[w.heap.size]? =some (.cells #[.int .i64 ka,.int .i64 l,.slice A ra.length ca] 133 (0,0))
 y:W.heap[w.heap.size+1]? =some (.cells #[.int .i64 kb,.int .i64 l,.slice B rb.length cb] 133 (0,0))
 z:W.heap[w.heap.size+2]? =some (.cells #[.int .i64 0,.int .i64 0,.slice none 0 0] 133 (0,0))
 sa:SlZ W 216 encN A ra
 sb:SlZ W 216 encN B rb
 b:Below w.heap.size w W
theorem run_low_len {l:Nat} {most:Int} {r s:List Nd} {ps:List Int} (hf:Fits l r) (h:RunTo l most r ps s) :Fits l s∧s.length≤r.length∧sumR s=sumR r:=⟨h.folded.fits hf,h.folded.len hf,h.folded.sum hf⟩
def nextS (s:Sen) :Sen:=if s.ep=1099511627776 then s else senNew s.l s.k s.kd s.p (s.ep+1)
def nextE (s:Sen) :Int:=if s.ep=1099511627776 then 21 else 0
def Next31Post (s:Sen) (A:Option Addr) (n c:Nat) (w:World) (e:Ending) (w':World) :Prop:=
 ((s.ep=1099511627776∧e=.returned (.tuple #[refV s A n c,.int .i64 21]))∨(s.ep≠1099511627776∧e=.returned (.tuple #[refV (senNew s.l s.k s.kd s.p (s.ep+1)) none 0 0,.int .i64 0])))∧Below w.heap.size w w'
def Send31Post [Zone] (l:Nat) (s:Sen) (r:List Nd) (w:World) (e:Ending) (w':World) :Prop:=
 (s.sent=true∧(∃A c,e=.returned (.tuple #[refV s A r.length c,.string ⟨#[]⟩,.int .i64 18])∧SlZ w' 216 encN A r)∧Below w.heap.size w w')∨
 (s.sent=false∧readyS s=false∧(∃A c,e=.returned (.tuple #[refV s A r.length c,.string ⟨#[]⟩,.int .i64 22])∧SlZ w' 216 encN A r)∧Below w.heap.size w w')∨
 (s.sent=false∧readyS s=true∧(∃ps r' A c,RunTo l (sumR r / s.k) r ps r'∧e=.returned (.tuple #[refV (sentS s) A r'.length c,.string ⟨(ltrT (senL l s r')).toArray⟩,.int .i64 0])∧SlZ w' 216 encN A r')∧Below w.heap.size w w')
end Go.Proofs.YtmdidmclfbfmiaaGreatDoor
