/-
  Texts of this proof, one behind the other: Blend, JoinN, Like31, SenRef, SenMore, SenNext, SenHear1, SenHear, Law31Do, OpenPlace, OpenOps31, Few31, SensorNewW, Made31, Play31.
-/
import Derived.Test.YtandlhihcnadmaaGreatR2
import Derived.Test.YtandlhihcnadmaaGreatR4
import Derived.Test.YtandlhihcnadmaaGreatR5
import Derived.Test.YtandlhihcnadmaaGreatR6
import Derived.Test.YtandlhihcnadmaaGreatR7
import Derived.Test.YtandlhihcnadmaaGreatR8
import Derived.Test.YtandlhihcnadmaaGreatR9
import Derived.Test.YtandlhihcnadmaaGreatR10
set_option linter.unusedVariables false
set_option linter.unusedSimpArgs false
set_option maxRecDepth 100000
set_option maxHeartbeats 16000000
namespace Go.Proofs.YtandlhihcnadmaaGreat
open Go.ChangeShapes Go.WideShapes Go.ChangeAt Go.RowKit
def blendErr (la lb:Nat) (ra rb:List Nd) :Int:=if la≠lb then 6 else if 72057594037927935<sumR ra+sumR rb then 5 else 0
theorem blend_wrong (w:World) (ga Ka la:Nat) (ka:Int) (ra:List Nd) (Fa:Nat→Prop) (gb Kb lb:Nat) (kb:Int) (rb:List Nd) (Fb:Nat→Prop) (ha:DigAt w ga Ka la ka ra Fa) (hb:DigAt w gb Kb lb kb rb Fb) :
 Calls Tryz.prog 155 #[.pointer (some ⟨ga,0,none⟩),.pointer (some ⟨gb,0,none⟩)] w fun e w'=>e=.returned (.int .i64 (blendErr la lb ra rb))∧Below w.heap.size w w':=by
 have a0:=sumR_nonneg ha.fits.roll;have a1:=ha.fits.sum;have b0:=sumR_nonneg hb.fits.roll;have b1:=hb.fits.sum;have HCa:=LH (fun W h=>digest_Conf W ga Ka la ka ra Fa h);have HCb:=LH (fun W h=>digest_Conf W gb Kb lb kb rb Fb h);have HNa:=LH (fun W h=>digest_N W ga Ka la ka ra Fa h);have HNb:=LH (fun W h=>digest_N W gb Kb lb kb rb Fb h);have HA:=LH ha;have HB:=LH hb;unfold blendErr;clear ha hb;generalize sumR ra=na at HNa a0 a1⊢;generalize sumR rb=nb at HNb b0 b1⊢;by_cases hl:la=lb
 ·subst hl
  rw [if_neg (by simp)];have hll: ((la:Int) != (la:Int)) =false:=by simp
  by_cases hs:72057594037927935<na+nb
  ·rw [if_pos hs]
   have hs':72057594037927935 - nb<na:=by omega
   clear hs
   go_enter Tryz.func155,Tryz.ntmps155
   go_wp2_with fail;refine(HCa.out w HA.out).mono ?_;rintro e w1 ⟨rfl,hb1⟩;have B1:=LH hb1;clear hb1;go_wp2_with fail;refine(HCb.out w1 (HB.out.below B1.out)).mono ?_;rintro e w2 ⟨rfl,hb2⟩;have B2:=LH (Below.then_ B1.out hb2);clear hb2;go_wp2_with fail;refine(HNa.out w2 (HA.out.below B2.out)).mono ?_;rintro e w3 ⟨rfl,hb3⟩;have B3:=LH (Below.then_ B2.out hb3);clear hb3;go_wp2_with fail;refine(HNb.out w3 (HB.out.below B3.out)).mono ?_;rintro e w4 ⟨rfl,hb4⟩;have B4:=LH (Below.then_ B3.out hb4);clear hb4;go_wp2_with fail;go_ret;exact⟨rfl,B4.out⟩
  ·rw [if_neg hs]
   have hs':decide (72057594037927935 - nb<na) =false:=by simp;omega
   clear hs
   go_enter Tryz.func155,Tryz.ntmps155
   go_wp2_with fail;refine(HCa.out w HA.out).mono ?_;rintro e w1 ⟨rfl,hb1⟩;have B1:=LH hb1;clear hb1;go_wp2_with fail;refine(HCb.out w1 (HB.out.below B1.out)).mono ?_;rintro e w2 ⟨rfl,hb2⟩;have B2:=LH (Below.then_ B1.out hb2);clear hb2;go_wp2_with fail;refine(HNa.out w2 (HA.out.below B2.out)).mono ?_;rintro e w3 ⟨rfl,hb3⟩;have B3:=LH (Below.then_ B2.out hb3);clear hb3;go_wp2_with fail;refine(HNb.out w3 (HB.out.below B3.out)).mono ?_;rintro e w4 ⟨rfl,hb4⟩;have B4:=LH (Below.then_ B3.out hb4);clear hb4;go_wp2_with fail;go_ret;exact⟨rfl,B4.out⟩
 ·rw [if_pos hl]
  have hll: ((la:Int) != (lb:Int)) =true:=by simp;omega
  clear hl
  go_enter Tryz.func155,Tryz.ntmps155
  go_wp2_with fail;refine(HCa.out w HA.out).mono ?_;rintro e w1 ⟨rfl,hb1⟩;have B1:=LH hb1;clear hb1;go_wp2_with fail;refine(HCb.out w1 (HB.out.below B1.out)).mono ?_;rintro e w2 ⟨rfl,hb2⟩;have B2:=LH (Below.then_ B1.out hb2);clear hb2;go_wp2_with fail;go_ret;exact⟨rfl,B2.out⟩
def LowPost (l:Nat) (r:List Nd) (k2:Int) (w:World) (e:Ending) (w':World) :Prop:=
 ∃(v:Value) (ps:List Int) (s:List Nd),e=.returned v∧Own w' w.heap.size 154 encN v s∧RunTo l (sumR r / k2) r ps s∧Below w.heap.size w w'
theorem blend_lowered (w:World) (g K l:Nat) (k:Int) (r:List Nd) (F:Nat→Prop) (h:DigAt w g K l k r F) (hI:ints r) (hlen:r.length≤67108863) (k2:Int) (h1:1≤k2) (h2:k2≤1048576) (hln: ∀ps s,RunTo l (sumR r / k2) r ps s→s.length≤67108864) :
 Calls Tryz.prog 157 #[.pointer (some ⟨g,0,none⟩),.int .i64 k2] w (LowPost l r k2 w):=by
 have hRt:=fits_right h.fits h.l_le;have hKl:=dig_pool h;have HC:=LH (fun W h=>digest_Conf W g K l k r F h);have HNo:=LH (fun W h=>digest_Nodes W g K l k r F h (by omega));have HLd:=LH (fun W A cap hS=>pool_Load W K l A cap r hKl hRt hS hI (by omega));have HRu:=LH (fun W gp Fp h=>press_Run W gp K l r Fp h (by omega) k2 h1 h2);have HLn:=LH hln;have HD:=LH h;unfold LowPost;clear h hI hRt hKl h1 h2 hln
 go_enter Tryz.func157,Tryz.ntmps157
 go_wp2_with fail;refine(HC.out w HD.out).mono ?_;rintro e w1 ⟨rfl,hb1⟩;have al:=hb1.trans (((Below.refl w1.heap.size w1).alloc (Nat.le_refl _) (.cells #[.int .i64 l,.int .i64 k,.int .i64 K] 23)).mono hb1.size);have XC:=LH (heap_alloc_new w1 (.cells #[.int .i64 l,.int .i64 k,.int .i64 K] 23));have D3:=LH (HD.out.below al);have B3:=LH al;clear hb1 al HC HD;go_upto_region 2 with fail;obtain⟨pc,hpc⟩ : ∃q,q=w1.heap.size:=⟨_,rfl⟩;rw [←hpc] at XC⊢;generalize w1.alloc (.cells #[.int .i64 l,.int .i64 k,.int .i64 K] 23) =w3 at XC D3 B3⊢;clear hpc;refine wp_region_noPanic ?_;refine wp_region_N (fun w'=>w'.heap[pc]? =some (.cells #[.int .i64 l,.int .i64 k,.int .i64 K] 23 (0,0))) [] (by kernel_rfl) (XC.out) (fun hHeld=> ?_);refine nP 0 (Value.pointer (some ⟨pc,2,none⟩)) (h:= ?_)
 (try simp only [zA,zB,zC,Act.put,zD,zE,zF])
 refine nT 1 (Value.int .i64 K) (y:=Or.inl ⟨by rfl,fun W hW=>by have q1:=bC hW;have q2:=lB hW;go_simp⟩) (s:=XC.out) (h:= ?_)
 (try simp only [zA,zB,zC,Act.put,zD,zE,zF])
 refine nP 2 (Value.pointer (some ⟨pc,0,none⟩)) (h:= ?_)
 (try simp only [zA,zB,zC,Act.put,zD,zE,zF])
 refine nT 3 (Value.int .i64 l) (y:=Or.inl ⟨by rfl,fun W hW=>by have q1:=bC hW;have q2:=lB hW;go_simp⟩) (s:=XC.out) (h:= ?_)
 (try simp only [zA,zB,zC,Act.put,zD,zE,zF])
 refine nP 4 (Value.pointer (some ⟨g,0,none⟩)) (h:= ?_)
 (try simp only [zA,zB,zC,Act.put,zD,zE,zF])
 refine nO (i:=5) (by kernel_rfl) rfl (fun K hK=> ?_);go_simp;refine(HNo.out w3.drew D3.out.drew).mono ?_;rintro e w4 ⟨vN,rfl,hoN,hb4⟩;obtain⟨AN,cN,rfl,_⟩:=hoN.form;have ON:=LH hoN;have B4:=LH (Below.then_ B3.out.drew hb4);have XC4:=LH (bB (w:=w3.drew) XC.out hb4);clear hb4 hoN;refine hK.out _ _ (fun _ _=>XC4.out) ?_;clear hK K
 (try simp only [zA,zB,zC,Act.put,zD,zE,zF])
 refine nO (i:=6) (by kernel_rfl) rfl (fun K hK=> ?_);go_simp;refine(HLd.out w4 AN cN ON.out.sl).mono ?_;rintro e w5 ⟨gp,Fp,rfl,hP,hF,hb5⟩;have P5:=LH (And.intro hP fun b hb=>Nat.le_trans B4.out.size (hF b hb));have B5:=LH (Below.then_ B4.out hb5);have XC5:=LH (bB XC4.out hb5);clear hb5 hP hF;refine hK.out _ _ (fun _ _=>XC5.out) ?_;clear hK K
 (try simp only [zA,zB,zC,Act.put,zD,zE,zF])
 refine nP 7 (Value.tuple #[.pointer (some ⟨gp,0,none⟩),.int .i64 0]) (h:= ?_)
 (try simp only [zA,zB,zC,Act.put,zD,zE,zF])
 refine nP 8 (Value.pointer (some ⟨gp,0,none⟩)) (h:= ?_)
 (try simp only [zA,zB,zC,Act.put,zD,zE,zF])
 refine nP 9 (Value.int .i64 0) (h:= ?_)
 (try simp only [zA,zB,zC,Act.put,zD,zE,zF])
 refine nP 10 (Value.pointer (some ⟨gp,0,none⟩)) (h:= ?_)
 (try simp only [zA,zB,zC,Act.put,zD,zE,zF])
 refine nO (i:=11) (by kernel_rfl) rfl (fun K hK=> ?_);go_simp;refine hK.out _ _ (fun _ _=>XC5.out) ?_;clear hK K
 (try simp only [zA,zB,zC,Act.put,zD,zE,zF])
 refine nD (by kernel_rfl) ?_ _;refine NoPanic.normal ?_;clear XC XC4 D3 B3 ON HNo HLd;go_upto_region 5 with fail;go_wp2_with fail;refine(HRu.out w5 gp Fp P5.out.1).mono ?_;rintro e w6 ⟨ps,s,rfl,hR,_,Fq,hP6,hT,hG⟩;have B6:=LH (B5.out.trans (hT.below P5.out.2 B5.out.size));have HR:=LH hR;have P6:=LH hP6;have hsl:=HLn.out ps s hR;clear hR hP6 hT hG HRu P5 XC5;go_wp2_with fail;refine(pool_Snap w6 gp K l s Fq P6.out hsl).mono ?_;rintro e w7 ⟨v,rfl,ho,hb7⟩;have O7:=LH (ho.base_le (b:=w.heap.size) B6.out.size);have B7:=LH (Below.then_ B6.out hb7);clear ho hb7;go_wp2_with fail;go_ret;exact⟨v,ps,s,rfl,O7.out,HR.out,B7.out⟩
def JoinPost (a b:List Nd) (w:World) (e:Ending) (w':World) :Prop:=∃v,e=.returned (.tuple #[v,.bool true])∧Own w' w.heap.size 154 encN v (joinR a b)∧Below w.heap.size w w'
theorem roll_Join (w:World) (A B:Option Addr) (ca cb:Nat) (a b:List Nd) (hA:Sl w w.heap.size encN A a) (hB:Sl w w.heap.size encN B b) (ha:Roll a) (hb:Roll b) (ia:ints a) (ib:ints b) (hs:sumR a+sumR b≤72057594037927935) (hn:a.length+b.length≤67108863) :
 Calls Tryz.prog 156 #[.slice A a.length ca,.slice B b.length cb] w (JoinPost a b w):=by
 have HF:=LH (fun W A' c' h h1 h2=>roll_Fold W A' c' (a ++ b) h (fun x hx=>by
  rcases List.mem_append.1 hx with hx|hx
  ·exact ia x hx
  ·exact ib x hx) (fun x hx=>by
  rcases List.mem_append.1 hx with hx|hx
  ·exact ha.2 x hx
  ·exact hb.2 x hx) (by rw [sumR_append];exact hs) h1 h2 (by rw [List.length_append];exact hn))
 have al:Below w.heap.size w (w.alloc (.cells #[.slice A a.length ca,.slice B b.length cb] 31)):=bE
 have HS:Hid (Sl (w.alloc (.cells #[.slice A a.length ca,.slice B b.length cb] 31)) (w.alloc (.cells #[.slice A a.length ca,.slice B b.length cb] 31)).heap.size encSl (some ⟨w.heap.size,0,none⟩) [(A,ca,a),(B,cb,b)]):=LH
  ((sl_lit w encSl [(A,ca,a),(B,cb,b)] 31 _ rfl).keep (by simp) fun p hp=>rfl)
 have HE:Hid (∀s∈ [(A,ca,a),(B,cb,b)],Sl (w.alloc (.cells #[.slice A a.length ca,.slice B b.length cb] 31)) (w.alloc (.cells #[.slice A a.length ca,.slice B b.length cb] 31)).heap.size encN s.1 s.2.2):=LH fun s hs=>by
  rcases List.mem_cons.1 hs with rfl|hs
  ·exact hA.keep al.size fun p hp=>al.cell hp
  ·rw [List.mem_singleton.1 hs]
   exact hB.keep al.size fun p hp=>al.cell hp
 have BW:=LH al;have hall:allN [(A,ca,a),(B,cb,b)] =a ++ b:=by simp [allN]
 have HC:=LH (fun W hS hE=>concat_N W (some ⟨w.heap.size,0,none⟩) 2 [(A,ca,a),(B,cb,b)] hS hE (by rw [hall,List.length_append];omega) (by simp));rw [hall] at HC;unfold JoinPost joinR;generalize a ++ b=L at HC HF⊢;clear hA hB ha hb ia ib hs hn al hall
 go_enter Tryz.func156,Tryz.ntmps156
 go_wp2_with fail;refine(HC.out _ HS.out HE.out).mono ?_;rintro e w1 ⟨v1,rfl,ho1,hb1⟩;obtain⟨A1,c1,rfl,f1,f2,_⟩:=ho1.form;have S1:=LH ho1.sl;have F1:=LH f1;have F2:=LH f2;have B1:=LH (Below.then_ BW.out hb1);clear ho1 hb1 HC HS HE BW f1 f2;go_wp2_with fail;refine(HF.out w1 A1 c1 S1.out F1.out F2.out).mono ?_;rintro e w2 ⟨v2,rfl,ho2,hb2⟩;have O2:=LH (ho2.base_le B1.out.size);have B2:=LH (Below.then_ B1.out hb2);clear ho2 hb2;go_wp2_with fail
 go_ret2
 exact⟨v2,rfl,O2.out,B2.out⟩
def MergePost (l K:Nat) (k2:Int) (ra rb:List Nd) (w:World) (e:Ending) (w':World) :Prop:=
 ∃g F rc,e=.returned (.tuple #[.pointer (some ⟨g,0,none⟩),.int .i64 0])∧DigAt w' g K l k2 rc F∧(∀b,F b→w.heap.size≤b)∧Joined l k2 ra rb rc∧Below w.heap.size w w'
theorem blend_Merge_no (w:World) (ga Ka la:Nat) (ka:Int) (ra:List Nd) (Fa:Nat→Prop) (gb Kb lb:Nat) (kb:Int) (rb:List Nd) (Fb:Nat→Prop) (ha:DigAt w ga Ka la ka ra Fa) (hb:DigAt w gb Kb lb kb rb Fb) (he:blendErr la lb ra rb≠0) :
 Calls Tryz.prog 112 #[.pointer (some ⟨ga,0,none⟩),.pointer (some ⟨gb,0,none⟩)] w fun e w'=>e=.returned (.tuple #[.pointer none,.int .i64 (blendErr la lb ra rb)])∧Below w.heap.size w w':=by
 have HC:=LH (blend_wrong w ga Ka la ka ra Fa gb Kb lb kb rb Fb ha hb);have hne: (blendErr la lb ra rb != 0) =true:=by simpa using he
 clear ha hb he;generalize blendErr la lb ra rb=n at HC hne⊢
 go_enter Tryz.func112,Tryz.ntmps112
 go_wp2_with fail;refine HC.out.mono ?_;rintro e w1 ⟨rfl,hb1⟩;go_wp2_with fail
 go_ret2
 exact⟨rfl,hb1⟩
theorem dig_is {w:World} {g K l:Nat} {k:Int} {r:List Nd} {F:Nat→Prop} (h:DigAt w g K l k r F) {k2:Int} (h1:1≤k2) (h2:k2≤k) :isDig l k2 K=true:=by
 obtain⟨q1,q2,p,F0,_,_,hP⟩:=h;obtain⟨p1,p2,_,p',F',_,hk⟩:=hP;simp only [isDig,isPool,Bool.and_eq_true,decide_eq_true_eq];rcases hk with ⟨rfl,h16,_⟩ | ⟨rfl,_⟩
 ·omega
 ·omega
structure MergeS (w:World) (ga Ka l:Nat) (ka:Int) (ra:List Nd) (Fa:Nat→Prop) (gb Kb:Nat) (kb:Int) (rb:List Nd) (Fb:Nat→Prop) (pc:Nat) (k:Int) (W:World) :Prop where
 a:DigAt W ga Ka l ka ra Fa
 b:DigAt W gb Kb l kb rb Fb
 c:W.heap[pc]? =some (.cells #[.int .i64 l,.int .i64 k,.int .i64 Ka] 23 (0,0))
 blw:Below w.heap.size w W
 lt:w.heap.size≤pc
 na: ¬Fa pc
 nb: ¬Fb pc
section
variable {w:World} {ga Ka l:Nat} {ka:Int} {ra:List Nd} {Fa:Nat→Prop} {gb Kb:Nat} {kb:Int} {rb:List Nd} {Fb:Nat→Prop} {pc:Nat} {k k2:Int} {W W':World}
theorem MergeS.below (h:MergeS w ga Ka l ka ra Fa gb Kb kb rb Fb pc k W) (hb:Below W.heap.size W W') :MergeS w ga Ka l ka ra Fa gb Kb kb rb Fb pc k W':=
 ⟨h.a.below hb,h.b.below hb,bB h.c hb,h.blw.trans (hb.mono h.blw.size),h.lt,h.na,h.nb⟩
theorem MergeS.drew (h:MergeS w ga Ka l ka ra Fa gb Kb kb rb Fb pc k W) :MergeS w ga Ka l ka ra Fa gb Kb kb rb Fb pc k W.drew:=h.below (Below.drew (Below.refl _ _))
theorem MergeS.set (h:MergeS w ga Ka l ka ra Fa gb Kb kb rb Fb pc k W) :MergeS w ga Ka l ka ra Fa gb Kb kb rb Fb pc k2 (W.setCell ⟨pc,1,none⟩ (.int .i64 k2)):=
 ⟨h.a.keep fun b hb=>Below.heap_setCell _ _ _ _ (fun e=>h.na (by have e':b=pc:=e;rw [←e'];exact hb)),h.b.keep fun b hb=>Below.heap_setCell _ _ _ _ (fun e=>h.nb (by have e':b=pc:=e;rw [←e'];exact hb)),zH (i:=1) h.c _,h.blw.setCell (p:=⟨pc,1,none⟩) h.lt _,h.lt,h.na,h.nb⟩
end
theorem blend_Merge (w:World) (ga Ka l:Nat) (ka:Int) (ra:List Nd) (Fa:Nat→Prop) (gb Kb:Nat) (kb:Int) (rb:List Nd) (Fb:Nat→Prop) (ha:DigAt w ga Ka l ka ra Fa) (hb:DigAt w gb Kb l kb rb Fb) (la:lightOf l ra ka=true) (lb:lightOf l rb kb=true) (he:blendErr l l ra rb=0) (na:ra.length≤33554430) (nb:rb.length≤33554430) :
 Calls Tryz.prog 112 #[.pointer (some ⟨ga,0,none⟩),.pointer (some ⟨gb,0,none⟩)] w (MergePost l Ka (min ka kb) ra rb w):=by
 have hll:=ha.l_le;have fa:=ha.fits;have fb:=hb.fits
 have hs:sumR ra+sumR rb≤72057594037927935:=by
  unfold blendErr at he;rw [if_neg (by simp)] at he
  split at he
  ·cases he
  ·omega
 have hW:=LH (fun W h h'=>blend_wrong W ga Ka l ka ra Fa gb Kb l kb rb Fb h h');rw [he] at hW;have a1:=ha.1;have a2:=ha.2.1;have b1:=hb.1;have b2:=hb.2.1;obtain⟨k2,hk2⟩ : ∃k2,k2=min ka kb:=⟨_,rfl⟩;have c1:1≤k2:=by omega
 have c2:k2≤ka:=by omega
 have c3:k2≤kb:=by omega
 have hD:=dig_is ha c1 c2;have la2:=light_weaker fa.roll la c1 c2;have lb2:=light_weaker fb.roll lb c1 c3;have HCa:=LH (fun W h=>digest_Conf W ga Ka l ka ra Fa h);have HCb:=LH (fun W h=>digest_Conf W gb Kb l kb rb Fb h);have HLa:=LH (fun W h=>blend_lowered W ga Ka l ka ra Fa h (fits_ints fa hll.2) (by omega) k2 c1 (by omega) (fun ps s hR=>by have:=hR.folded.len fa;omega));have HLb:=LH (fun W h=>blend_lowered W gb Kb l kb rb Fb h (fits_ints fb hll.2) (by omega) k2 c1 (by omega) (fun ps s hR=>by have:=hR.folded.len fb;omega));have HJ:=LH (fun pa sa pb sb (ha:RunTo l (sumR ra / k2) ra pa sa) (hb:RunTo l (sumR rb / k2) rb pb sb)=>joined_of hll c1 fa fb la2 lb2 hs ha hb);have HJn:=LH (fun pa sa pb sb (ha:RunTo l (sumR ra / k2) ra pa sa) (hb:RunTo l (sumR rb / k2) rb pb sb) W A B ca cb h1 h2=>roll_Join W A B ca cb sa sb h1 h2 (ha.folded.fits fa).roll (hb.folded.fits fb).roll (fits_ints (ha.folded.fits fa) hll.2) (fits_ints (hb.folded.fits fb) hll.2) (by rw [ha.folded.sum fa,hb.folded.sum fb];exact hs) (by have:=ha.folded.len fa;have:=hb.folded.len fb;omega));have HLo:=LH (fun rc (h:Joined l k2 ra rb rc) W A c hS=>digest_Load W l Ka k2 A c rc (h.load hll hD) hS (fits_ints h.fits hll.2) (by have:=h.len;omega));have M0:=LH (And.intro ha hb);unfold MergePost;rw [←hk2];have hmin:=LH hk2;clear ha hb la lb he na nb fa fb hs hD la2 lb2 hk2
 go_enter Tryz.func112,Tryz.ntmps112
 go_wp2_with fail;refine(hW.out w M0.out.1 M0.out.2).mono ?_;rintro e w1 ⟨rfl,hb1⟩;have M1:=LH (And.intro (M0.out.1.below hb1) (M0.out.2.below hb1));have B1:=LH hb1;clear hb1 M0 hW;go_wp2_with fail;refine(HCa.out w1 M1.out.1).mono ?_;rintro e w2 ⟨rfl,hb2⟩
 have M2:Hid (MergeS w ga Ka l ka ra Fa gb Kb kb rb Fb w2.heap.size ka (w2.alloc (.cells #[.int .i64 l,.int .i64 ka,.int .i64 Ka] 23))):=LH (by
  have da:=M1.out.1.below hb2;have db:=M1.out.2.below hb2;have al:=(Below.refl w2.heap.size w2).alloc (Nat.le_refl _) (.cells #[.int .i64 l,.int .i64 ka,.int .i64 Ka] 23);have B2:=Below.then_ B1.out hb2;exact⟨da.below al,db.below al,heap_alloc_new w2 _,B2.trans (al.mono B2.size),B2.size,fun h=>by have:=da.lt _ h;omega,fun h=>by have:=db.lt _ h;omega⟩)
 clear hb2 M1 B1 HCa;go_upto_region 5 with fail;obtain⟨pc,hpc⟩ : ∃p,p=w2.heap.size:=⟨_,rfl⟩;rw [←hpc] at M2⊢;generalize w2.alloc (.cells #[.int .i64 l,.int .i64 ka,.int .i64 Ka] 23) =w3 at M2⊢;clear hpc;refine wp_region_noPanic ?_;refine wp_region_N (fun W'=>MergeS w ga Ka l ka ra Fa gb Kb kb rb Fb pc ka W') [7] (by kernel_rfl) (M2.out.drew) (fun hHeld=> ?_);have M3:=LH hHeld;refine nP 0 (Value.pointer (some ⟨pc,1,none⟩)) (h:= ?_)
 (try simp only [zA,zB,zC,Act.put,zD,zE,zF])
 refine nT 1 (Value.int .i64 ka) (y:=Or.inl ⟨by rfl,fun W hW=>by have q1:=bC hW.c;have q2:=lB hW.c;go_simp⟩) (s:=M3.out) (h:= ?_)
 (try simp only [zA,zB,zC,Act.put,zD,zE,zF])
 refine nP 2 (Value.pointer (some ⟨gb,0,none⟩)) (h:= ?_)
 (try simp only [zA,zB,zC,Act.put,zD,zE,zF])
 refine nO (i:=3) (by kernel_rfl) rfl (fun K hK=> ?_);go_simp;refine(HCb.out w3.drew M3.out.b).mono ?_;rintro e w4 ⟨rfl,hb4⟩;have M4:=LH (M3.out.below hb4);clear hb4;refine hK.out _ _ (fun _ _=>M4.out) ?_;clear hK K
 (try simp only [zA,zB,zC,Act.put,zD,zE,zF])
 refine nP 4 (Value.int .i64 kb) (h:= ?_)
 (try simp only [zA,zB,zC,Act.put,zD,zE,zF])
 refine wpAnyN_pure (i:=5) (v:=Value.int .i64 k2) rfl (by kernel_rfl) (by kernel_rfl) (by kernel_rfl) (fun _ _ _ h=>h) (Or.inl ⟨by rfl,fun W _=>by rw [hmin.out];go_simp⟩) ?_
 (try simp only [zA,zB,zC,Act.put,zD,zE,zF])
 refine nP 6 (Value.pointer (some ⟨pc,1,none⟩)) (h:= ?_)
 (try simp only [zA,zB,zC,Act.put,zD,zE,zF])
 have pcl:=bC M4.out.c;have pf:=bF M4.out.c;have pz:=lB M4.out.c;refine nO (i:=7) (by kernel_rfl) rfl (fun K hK=> ?_);go_simp;refine hK.out _ _ (fun h _=>absurd (List.mem_singleton.2 rfl) h) ?_;clear hK K pf pz pcl
 (try simp only [zA,zB,zC,Act.put,zD,zE,zF])
 refine nD (by kernel_rfl) ?_ _;refine NoPanic.normal ?_;have M5:Hid (MergeS w ga Ka l ka ra Fa gb Kb kb rb Fb pc k2 (w4.setCell ⟨pc,1,none⟩ (.int .i64 k2))):=LH M4.out.set;clear M2 M3 M4 HCb hmin;go_upto_region 6 with fail;generalize w4.setCell ⟨pc,1,none⟩ (.int .i64 k2) =w5 at M5⊢;refine wp_region_noPanic ?_;refine wp_region_N (fun W'=>MergeS w ga Ka l ka ra Fa gb Kb kb rb Fb pc k2 W') [] (by kernel_rfl) (M5.out.drew) (fun hHeld=> ?_);have M6:=LH hHeld;generalize w5.drew=w6 at M6⊢;refine nP 0 (Value.pointer (some ⟨ga,0,none⟩)) (h:= ?_)
 (try simp only [zA,zB,zC,Act.put,zD,zE,zF])
 refine nP 1 (Value.pointer (some ⟨pc,1,none⟩)) (h:= ?_)
 (try simp only [zA,zB,zC,Act.put,zD,zE,zF])
 refine nT 2 (Value.int .i64 k2) (y:=Or.inl ⟨by rfl,fun W hW=>by have q1:=bC hW.c;have q2:=lB hW.c;go_simp⟩) (s:=M6.out) (h:= ?_)
 (try simp only [zA,zB,zC,Act.put,zD,zE,zF])
 refine nP 4 (Value.pointer (some ⟨gb,0,none⟩)) (h:= ?_)
 (try simp only [zA,zB,zC,Act.put,zD,zE,zF])
 refine nP 5 (Value.pointer (some ⟨pc,1,none⟩)) (h:= ?_)
 (try simp only [zA,zB,zC,Act.put,zD,zE,zF])
 refine nT 6 (Value.int .i64 k2) (y:=Or.inl ⟨by rfl,fun W hW=>by have q1:=bC hW.c;have q2:=lB hW.c;go_simp⟩) (s:=M6.out) (h:= ?_)
 (try simp only [zA,zB,zC,Act.put,zD,zE,zF])
 clear M5;refine nO (i:=3) (by kernel_rfl) rfl (fun K hK=> ?_);go_simp;refine(HLa.out w6 M6.out.a).mono ?_;rintro e w7 ⟨va,pa,sa,rfl,ho,hRa,hb7⟩;obtain⟨Aa,ca,rfl,_⟩:=ho.form;have Oa:=LH ho;have Ra:=LH hRa;have M7:=LH (M6.out.below hb7);clear ho hRa hb7;refine hK.out _ _ (fun _ _=>M7.out) ?_;clear hK K
 (try simp only [zA,zB,zC,Act.put,zD,zE,zF])
 refine nO (i:=7) (by kernel_rfl) rfl (fun K hK=> ?_);go_simp;refine(HLb.out w7 M7.out.b).mono ?_;rintro e w8 ⟨vb,pb,sb,rfl,ho,hRb,hb8⟩;obtain⟨Ab,cb,rfl,_⟩:=ho.form;have Ob:=LH ho;have Rb:=LH hRb;have M8:=LH (M7.out.below hb8);have Oa8:=LH (Oa.out.below hb8);clear ho hRb hb8 HLa HLb Oa;refine hK.out _ _ (fun _ _=>M8.out) ?_;clear hK K
 (try simp only [zA,zB,zC,Act.put,zD,zE,zF])
 have JJ:=LH (HJ.out pa sa pb sb Ra.out Rb.out);refine nO (i:=8) (by kernel_rfl) rfl (fun K hK=> ?_);go_simp;refine(HJn.out pa sa pb sb Ra.out Rb.out w8 Aa Ab ca cb Oa8.out.sl Ob.out.sl).mono ?_;rintro e w9 ⟨v9,rfl,ho9,hb9⟩;obtain⟨A9,c9,rfl,_⟩:=ho9.form;have S9:=LH ho9.sl;have M9:=LH (M8.out.below hb9);clear ho9 hb9 HJ HJn Oa8 Ob Ra Rb M6 M7 M8;refine hK.out _ _ (fun _ _=>M9.out) ?_;clear hK K
 (try simp only [zA,zB,zC,Act.put,zD,zE,zF])
 obtain⟨rc,hrc⟩ : ∃r,r=joinR sa sb:=⟨_,rfl⟩;rw [←hrc] at JJ S9⊢;clear hrc;refine nP 9 (Value.tuple #[Value.slice A9 rc.length c9,.bool true]) (h:= ?_)
 (try simp only [zA,zB,zC,Act.put,zD,zE,zF])
 refine nP 10 (Value.slice A9 rc.length c9) (h:= ?_)
 (try simp only [zA,zB,zC,Act.put,zD,zE,zF])
 refine nP 11 (Value.bool true) (h:= ?_)
 (try simp only [zA,zB,zC,Act.put,zD,zE,zF])
 refine nP 12 (Value.slice A9 rc.length c9) (h:= ?_)
 (try simp only [zA,zB,zC,Act.put,zD,zE,zF])
 refine nO (i:=13) (by kernel_rfl) rfl (fun K hK=> ?_);go_simp;refine hK.out _ _ (fun _ _=>M9.out) ?_;clear hK K
 (try simp only [zA,zB,zC,Act.put,zD,zE,zF])
 refine nD (by kernel_rfl) ?_ _;refine NoPanic.normal ?_;have x0:=bC M9.out.c;have xz:=lB M9.out.c;go_wp2_with fail;refine(HLo.out rc JJ.out w9 A9 c9 S9.out).mono ?_;rintro e w10 ⟨gr,Fr,rfl,hd,hf,hb10⟩;have D10:=LH hd;have E10:=LH (fun b hb=>Nat.le_trans M9.out.blw.size (hf b hb));have B10:=LH (Below.then_ M9.out.blw hb10);clear hd hf hb10 x0 xz M9 HLo;go_wp2_with fail
 go_ret2
 exact⟨gr,Fr,rc,rfl,D10.out,E10.out,JJ.out,B10.out⟩
structure LikeS (w:World) (g K l:Nat) (s:Sen) (r:List Nd) (F:Nat→Prop) (A:Option Addr) (c:Nat) (W:World) :Prop where
 sa:SensAt W g K l s r F
 b:W.heap[w.heap.size]? =some (.cells #[.int .i64 s.l,.int .i64 s.k,.int .i64 s.kd,.int .i64 s.p.me,.int .i64 s.p.wait,.int .u64 s.p.kids,.int .i64 s.ep,.int .i64 s.ti,.int .u64 s.heard,.int .u64 s.cover,.bool s.sent,.int .i64 s.k,.int .i64 s.l,.slice A r.length c] 37 (0,0))
 p:W.heap[w.heap.size+1]? =some (.cells #[.int .i64 s.p.me,.int .u64 s.p.kids,.int .i64 s.p.wait] 82 (0,0))
 o:Sl W W.heap.size encN A r
 le:Below w.heap.size w W
theorem LikeS.below {w:World} {g K l:Nat} {s:Sen} {r:List Nd} {F:Nat→Prop} {A:Option Addr} {c:Nat} {W W':World} (h:LikeS w g K l s r F A c W) (hb:Below W.heap.size W W') :LikeS w g K l s r F A c W':=
 ⟨h.sa.below hb,bB h.b hb,bB h.p hb,h.o.keep (B':=W'.heap.size) hb.size fun p hp=>hb.cell hp,Below.then_ h.le hb⟩
structure LikeD (w:World) (g K l:Nat) (s:Sen) (r:List Nd) (F:Nat→Prop) (A:Option Addr) (c dg:Nat) (F':Nat→Prop) (W:World) :Prop where
 a:LikeS w g K l s r F A c W
 d:DigAt W dg K l s.k r F'
theorem LikeD.below {w:World} {g K l:Nat} {s:Sen} {r:List Nd} {F:Nat→Prop} {A:Option Addr} {c dg:Nat} {F':Nat→Prop} {W W':World} (h:LikeD w g K l s r F A c dg F' W) (hb:Below W.heap.size W W') :LikeD w g K l s r F A c dg F' W':=⟨h.a.below hb,h.d.below hb⟩
theorem LikeD.sen {w:World} {g K l:Nat} {s:Sen} {r:List Nd} {F:Nat→Prop} {A:Option Addr} {c dg:Nat} {F':Nat→Prop} {W:World} (h:LikeD w g K l s r F A c dg F' W) :SenAt W g (Classical.choose h.a.sa) s:=by
 obtain⟨_,_,h1,_⟩:=Classical.choose_spec h.a.sa;exact h1
theorem law31_like (w:World) (g K l:Nat) (s:Sen) (r:List Nd) (F:Nat→Prop) (A:Option Addr) (c:Nat) (h:SensAt w g K l s r F) (hS:Sl w w.heap.size encN A r) (ho:SenOk s) (hn:r.length≤67108864) :
 Calls Tryz.prog 11 #[.pointer (some ⟨g,0,none⟩),refV s A r.length c] w fun e w'=>e=.returned (.bool true)∧Below w.heap.size w w':=by
 obtain⟨hsl,hsK⟩ :s.l=l∧s.kd=K:=by obtain⟨_,_,_,_,h1,h2,_⟩:=h;exact⟨h1,h2⟩
 have HOk:=LH ho;have BW:Hid (Below w.heap.size w ((w.alloc (.cells #[.int .i64 s.l,.int .i64 s.k,.int .i64 s.kd,.int .i64 s.p.me,.int .i64 s.p.wait,.int .u64 s.p.kids,.int .i64 s.ep,.int .i64 s.ti,.int .u64 s.heard,.int .u64 s.cover,.bool s.sent,.int .i64 s.k,.int .i64 s.l,.slice A r.length c] 37)).alloc (.cells #[.int .i64 s.p.me,.int .u64 s.p.kids,.int .i64 s.p.wait] 82))):=LH bE
 have L0:Hid (LikeS w g K l s r F A c ((w.alloc (.cells #[.int .i64 s.l,.int .i64 s.k,.int .i64 s.kd,.int .i64 s.p.me,.int .i64 s.p.wait,.int .u64 s.p.kids,.int .i64 s.ep,.int .i64 s.ti,.int .u64 s.heard,.int .u64 s.cover,.bool s.sent,.int .i64 s.k,.int .i64 s.l,.slice A r.length c] 37)).alloc (.cells #[.int .i64 s.p.me,.int .u64 s.p.kids,.int .i64 s.p.wait] 82))):=
  LH ⟨h.below BW.out,(heap_new_lt _ _ _ (by simp)).trans (heap_alloc_new w _),heap_new_at (w.alloc _) _ _ (by simp),hS.keep BW.out.size fun p hp=>BW.out.cell hp,BW.out⟩
 have HSL:=LH hsl;have HSK:=LH hsK;clear h hS ho BW hsl hsK;unfold refV refC
 go_enter Tryz.func11,Tryz.ntmps11
 go_upto_region 2 with fail;generalize (w.alloc (.cells #[.int .i64 s.l,.int .i64 s.k,.int .i64 s.kd,.int .i64 s.p.me,.int .i64 s.p.wait,.int .u64 s.p.kids,.int .i64 s.ep,.int .i64 s.ti,.int .u64 s.heard,.int .u64 s.cover,.bool s.sent,.int .i64 s.k,.int .i64 s.l,.slice A r.length c] 37)).alloc (.cells #[.int .i64 s.p.me,.int .u64 s.p.kids,.int .i64 s.p.wait] 82) =W0 at L0⊢;go_wp2_with fail;refine(sensor_Digest W0 g K l s r F L0.out.sa).mono ?_;rintro e w1 ⟨dg,F',rfl,hd,_,hb⟩;have L1:=LH (L0.out.below hb);have D1:=LH hd;clear hd hb L0;have LD:=LH (show LikeD w g K l s r F A c dg F' w1 from⟨L1.out,D1.out⟩);have HC:=LH (fun W h=>digest_Conf W dg K l s.k r F' h);rw [←HSL.out,←HSK.out] at HC;have HPl:=LH (fun W dg' h=>sensor_Place W g dg' s h);unfold plcV at HPl;clear L1 D1 HSL HSK;go_upto_region 3 with fail;replace LD:=LH (LD.out.below (W':=w1.drew) ((Below.refl _ _).drew));refine wp_region_noPanic ?_;refine wp_region_N (LikeD w g K l s r F A c dg F') [] (by kernel_rfl) (LD.out) (fun hHeld=> ?_);generalize w1.drew=Wd0 at LD hHeld⊢;clear hHeld;simp only [List.append_eq,List.cons_append,List.nil_append];refine nP 0 (Value.pointer (some ⟨g,0,none⟩)) (h:= ?_)
 (try simp only [zA,zB,zC,Act.put,zD,zE,zF])
 refine nT 2 (Value.agg #[.int .i64 s.p.me,.int .u64 s.p.kids,.int .i64 s.p.wait]) (y:=Or.inl ⟨by rfl,fun W hW=>by have q1:=bC hW.a.b;have q2:=lB hW.a.b;have q3:=bC hW.a.p;have q4:=lB hW.a.p;go_simp⟩) (s:=LD.out) (h:= ?_)
 (try simp only [zA,zB,zC,Act.put,zD,zE,zF])
 refine nO (i:=1) (by kernel_rfl) rfl (fun K hK=> ?_);go_simp;refine(HPl.out _ _ LD.out.sen).mono ?_;rintro e wq ⟨rfl,hb⟩;replace LD:=LH (LD.out.below hb);clear hb;refine hK.out _ _ (fun _ _=>LD.out) ?_;clear hK K
 (try simp only [zA,zB,zC,Act.put,zD,zE,zF])
 refine nP 3 (Value.bool true) (h:= ?_)
 (try simp only [zA,zB,zC,Act.put,zD,zE,zF])
 refine nP 4 (Value.bool true) (h:= ?_)
 (try simp only [zA,zB,zC,Act.put,zD,zE,zF])
 refine nP 5 (Value.pointer (some ⟨g,0,none⟩)) (h:= ?_)
 (try simp only [zA,zB,zC,Act.put,zD,zE,zF])
 refine nP 7 (Value.pointer (some ⟨w.heap.size,6,none⟩)) (h:= ?_)
 (try simp only [zA,zB,zC,Act.put,zD,zE,zF])
 refine nT 8 (Value.int .i64 s.ep) (y:=Or.inl ⟨by rfl,fun W hW=>by have q1:=bC hW.a.b;have q2:=lB hW.a.b;have q3:=bC hW.a.p;have q4:=lB hW.a.p;go_simp⟩) (s:=LD.out) (h:= ?_)
 (try simp only [zA,zB,zC,Act.put,zD,zE,zF])
 refine nO (i:=6) (by kernel_rfl) rfl (fun K hK=> ?_);go_simp;refine(sensor_Epoch _ g _ s LD.out.sen).mono ?_;rintro e wq ⟨rfl,hb⟩;replace LD:=LH (LD.out.below hb);clear hb;refine hK.out _ _ (fun _ _=>LD.out) ?_;clear hK K
 (try simp only [zA,zB,zC,Act.put,zD,zE,zF])
 refine nP 9 (Value.bool true) (h:= ?_)
 (try simp only [zA,zB,zC,Act.put,zD,zE,zF])
 refine nP 10 (Value.bool true) (h:= ?_)
 (try simp only [zA,zB,zC,Act.put,zD,zE,zF])
 refine nP 11 (Value.bool true) (h:= ?_)
 (try simp only [zA,zB,zC,Act.put,zD,zE,zF])
 refine nP 12 (Value.pointer (some ⟨g,0,none⟩)) (h:= ?_)
 (try simp only [zA,zB,zC,Act.put,zD,zE,zF])
 refine nP 14 (Value.pointer (some ⟨w.heap.size,7,none⟩)) (h:= ?_)
 (try simp only [zA,zB,zC,Act.put,zD,zE,zF])
 refine nT 15 (Value.int .i64 s.ti) (y:=Or.inl ⟨by rfl,fun W hW=>by have q1:=bC hW.a.b;have q2:=lB hW.a.b;have q3:=bC hW.a.p;have q4:=lB hW.a.p;go_simp⟩) (s:=LD.out) (h:= ?_)
 (try simp only [zA,zB,zC,Act.put,zD,zE,zF])
 refine nO (i:=13) (by kernel_rfl) rfl (fun K hK=> ?_);go_simp;refine(sensor_Ticks _ g _ s LD.out.sen).mono ?_;rintro e wq ⟨rfl,hb⟩;replace LD:=LH (LD.out.below hb);clear hb;refine hK.out _ _ (fun _ _=>LD.out) ?_;clear hK K
 (try simp only [zA,zB,zC,Act.put,zD,zE,zF])
 refine nP 16 (Value.bool true) (h:= ?_)
 (try simp only [zA,zB,zC,Act.put,zD,zE,zF])
 refine nP 17 (Value.bool true) (h:= ?_)
 (try simp only [zA,zB,zC,Act.put,zD,zE,zF])
 refine nP 18 (Value.bool true) (h:= ?_)
 (try simp only [zA,zB,zC,Act.put,zD,zE,zF])
 refine nP 19 (Value.pointer (some ⟨g,0,none⟩)) (h:= ?_)
 (try simp only [zA,zB,zC,Act.put,zD,zE,zF])
 refine nP 21 (Value.pointer (some ⟨w.heap.size,8,none⟩)) (h:= ?_)
 (try simp only [zA,zB,zC,Act.put,zD,zE,zF])
 refine nT 22 (Value.int .u64 s.heard) (y:=Or.inl ⟨by rfl,fun W hW=>by have q1:=bC hW.a.b;have q2:=lB hW.a.b;have q3:=bC hW.a.p;have q4:=lB hW.a.p;go_simp⟩) (s:=LD.out) (h:= ?_)
 (try simp only [zA,zB,zC,Act.put,zD,zE,zF])
 refine nO (i:=20) (by kernel_rfl) rfl (fun K hK=> ?_);go_simp;refine(sensor_Heard _ g _ s LD.out.sen).mono ?_;rintro e wq ⟨rfl,hb⟩;replace LD:=LH (LD.out.below hb);clear hb;refine hK.out _ _ (fun _ _=>LD.out) ?_;clear hK K
 (try simp only [zA,zB,zC,Act.put,zD,zE,zF])
 refine nP 23 (Value.bool true) (h:= ?_)
 (try simp only [zA,zB,zC,Act.put,zD,zE,zF])
 refine nP 24 (Value.bool true) (h:= ?_)
 (try simp only [zA,zB,zC,Act.put,zD,zE,zF])
 refine nP 25 (Value.bool true) (h:= ?_)
 (try simp only [zA,zB,zC,Act.put,zD,zE,zF])
 refine nP 26 (Value.pointer (some ⟨g,0,none⟩)) (h:= ?_)
 (try simp only [zA,zB,zC,Act.put,zD,zE,zF])
 refine nP 28 (Value.pointer (some ⟨w.heap.size,9,none⟩)) (h:= ?_)
 (try simp only [zA,zB,zC,Act.put,zD,zE,zF])
 refine nT 29 (Value.int .u64 s.cover) (y:=Or.inl ⟨by rfl,fun W hW=>by have q1:=bC hW.a.b;have q2:=lB hW.a.b;have q3:=bC hW.a.p;have q4:=lB hW.a.p;go_simp⟩) (s:=LD.out) (h:= ?_)
 (try simp only [zA,zB,zC,Act.put,zD,zE,zF])
 refine nO (i:=27) (by kernel_rfl) rfl (fun K hK=> ?_);go_simp;refine(sensor_Cover _ g _ s LD.out.sen).mono ?_;rintro e wq ⟨rfl,hb⟩;replace LD:=LH (LD.out.below hb);clear hb;refine hK.out _ _ (fun _ _=>LD.out) ?_;clear hK K
 (try simp only [zA,zB,zC,Act.put,zD,zE,zF])
 refine nP 30 (Value.bool true) (h:= ?_)
 (try simp only [zA,zB,zC,Act.put,zD,zE,zF])
 refine nP 31 (Value.bool true) (h:= ?_)
 (try simp only [zA,zB,zC,Act.put,zD,zE,zF])
 refine nP 32 (Value.bool true) (h:= ?_)
 (try simp only [zA,zB,zC,Act.put,zD,zE,zF])
 refine nP 33 (Value.pointer (some ⟨g,0,none⟩)) (h:= ?_)
 (try simp only [zA,zB,zC,Act.put,zD,zE,zF])
 refine nP 35 (Value.pointer (some ⟨w.heap.size,10,none⟩)) (h:= ?_)
 (try simp only [zA,zB,zC,Act.put,zD,zE,zF])
 refine nT 36 (Value.bool s.sent) (y:=Or.inl ⟨by rfl,fun W hW=>by have q1:=bC hW.a.b;have q2:=lB hW.a.b;have q3:=bC hW.a.p;have q4:=lB hW.a.p;go_simp⟩) (s:=LD.out) (h:= ?_)
 (try simp only [zA,zB,zC,Act.put,zD,zE,zF])
 refine nO (i:=34) (by kernel_rfl) rfl (fun K hK=> ?_);go_simp;refine(sensor_Sent _ g _ s LD.out.sen).mono ?_;rintro e wq ⟨rfl,hb⟩;replace LD:=LH (LD.out.below hb);clear hb;refine hK.out _ _ (fun _ _=>LD.out) ?_;clear hK K
 (try simp only [zA,zB,zC,Act.put,zD,zE,zF])
 refine nP 37 (Value.bool true) (h:= ?_)
 (try simp only [zA,zB,zC,Act.put,zD,zE,zF])
 refine nP 38 (Value.bool true) (h:= ?_)
 (try simp only [zA,zB,zC,Act.put,zD,zE,zF])
 refine nP 39 (Value.bool true) (h:= ?_)
 (try simp only [zA,zB,zC,Act.put,zD,zE,zF])
 refine nP 40 (Value.pointer (some ⟨g,0,none⟩)) (h:= ?_)
 (try simp only [zA,zB,zC,Act.put,zD,zE,zF])
 refine nT 42 (Value.agg #[.int .i64 s.l,.int .i64 s.k,.int .i64 s.kd,.int .i64 s.p.me,.int .i64 s.p.wait,.int .u64 s.p.kids,.int .i64 s.ep,.int .i64 s.ti,.int .u64 s.heard,.int .u64 s.cover,.bool s.sent,.int .i64 s.k,.int .i64 s.l,.slice A r.length c]) (y:=Or.inl ⟨by rfl,fun W hW=>by have q1:=bC hW.a.b;have q2:=lB hW.a.b;have q3:=bC hW.a.p;have q4:=lB hW.a.p;go_simp⟩) (s:=LD.out) (h:= ?_)
 (try simp only [zA,zB,zC,Act.put,zD,zE,zF])
 refine nO (i:=41) (by kernel_rfl) rfl (fun K hK=> ?_);go_simp;refine(sensor_Ready _ g _ s LD.out.sen).mono ?_;rintro e wq ⟨rfl,hb⟩;replace LD:=LH (LD.out.below hb);clear hb;refine hK.out _ _ (fun _ _=>LD.out) ?_;clear hK K
 (try simp only [zA,zB,zC,Act.put,zD,zE,zF])
 refine nO (i:=43) (by kernel_rfl) rfl (fun K hK=> ?_);go_simp;refine(ref31_Ready _ s A r.length c HOk.out).mono ?_;rintro e wq ⟨rfl,hb⟩;replace LD:=LH (LD.out.below hb);clear hb;refine hK.out _ _ (fun _ _=>LD.out) ?_;clear hK K
 (try simp only [zA,zB,zC,Act.put,zD,zE,zF])
 refine nP 44 (Value.bool true) (h:= ?_)
 (try simp only [zA,zB,zC,Act.put,zD,zE,zF])
 refine nP 45 (Value.bool true) (h:= ?_)
 (try simp only [zA,zB,zC,Act.put,zD,zE,zF])
 refine nP 46 (Value.bool true) (h:= ?_)
 (try simp only [zA,zB,zC,Act.put,zD,zE,zF])
 refine nP 47 (Value.pointer (some ⟨dg,0,none⟩)) (h:= ?_)
 (try simp only [zA,zB,zC,Act.put,zD,zE,zF])
 refine nP 48 (Value.bool true) (h:= ?_)
 (try simp only [zA,zB,zC,Act.put,zD,zE,zF])
 refine nP 49 (Value.bool true) (h:= ?_)
 (try simp only [zA,zB,zC,Act.put,zD,zE,zF])
 refine nP 50 (Value.bool true) (h:= ?_)
 (try simp only [zA,zB,zC,Act.put,zD,zE,zF])
 refine nP 51 (Value.pointer (some ⟨dg,0,none⟩)) (h:= ?_)
 (try simp only [zA,zB,zC,Act.put,zD,zE,zF])
 refine nP 53 (Value.pointer (some ⟨w.heap.size,0,none⟩)) (h:= ?_)
 (try simp only [zA,zB,zC,Act.put,zD,zE,zF])
 refine nT 54 (Value.agg #[.int .i64 s.l,.int .i64 s.k,.int .i64 s.kd]) (y:=Or.inl ⟨by rfl,fun W hW=>by have q1:=bC hW.a.b;have q2:=lB hW.a.b;have q3:=bC hW.a.p;have q4:=lB hW.a.p;go_simp⟩) (s:=LD.out) (h:= ?_)
 (try simp only [zA,zB,zC,Act.put,zD,zE,zF])
 refine nO (i:=52) (by kernel_rfl) rfl (fun K hK=> ?_);go_simp;refine(HC.out _ LD.out.d).mono ?_;rintro e wq ⟨rfl,hb⟩;replace LD:=LH (LD.out.below hb);clear hb;refine hK.out _ _ (fun _ _=>LD.out) ?_;clear hK K
 (try simp only [zA,zB,zC,Act.put,zD,zE,zF])
 refine nP 55 (Value.bool true) (h:= ?_)
 (try simp only [zA,zB,zC,Act.put,zD,zE,zF])
 refine nP 56 (Value.bool true) (h:= ?_)
 (try simp only [zA,zB,zC,Act.put,zD,zE,zF])
 refine nP 57 (Value.bool true) (h:= ?_)
 (try simp only [zA,zB,zC,Act.put,zD,zE,zF])
 refine nP 58 (Value.pointer (some ⟨dg,0,none⟩)) (h:= ?_)
 (try simp only [zA,zB,zC,Act.put,zD,zE,zF])
 refine nP 60 (Value.pointer (some ⟨w.heap.size,11,none⟩)) (h:= ?_)
 (try simp only [zA,zB,zC,Act.put,zD,zE,zF])
 refine nP 61 (Value.pointer (some ⟨w.heap.size,12,none⟩)) (h:= ?_)
 (try simp only [zA,zB,zC,Act.put,zD,zE,zF])
 refine nP 62 (Value.pointer (some ⟨w.heap.size,13,none⟩)) (h:= ?_)
 (try simp only [zA,zB,zC,Act.put,zD,zE,zF])
 refine nT 63 (Value.slice A r.length c) (y:=Or.inl ⟨by rfl,fun W hW=>by have q1:=bC hW.a.b;have q2:=lB hW.a.b;have q3:=bC hW.a.p;have q4:=lB hW.a.p;go_simp⟩) (s:=LD.out) (h:= ?_)
 (try simp only [zA,zB,zC,Act.put,zD,zE,zF])
 refine nO (i:=59) (by kernel_rfl) rfl (fun K hK=> ?_);go_simp;refine(digest_Nodes _ dg _ l s.k r F' LD.out.d hn).mono ?_;rintro e wq ⟨v,rfl,ho,hb⟩;obtain⟨Av,cv,rfl,_⟩:=ho.form;have O:=LH ho.sl;replace LD:=LH (LD.out.below hb);clear ho hb;refine hK.out _ _ (fun _ _=>LD.out) ?_;clear hK K
 (try simp only [zA,zB,zC,Act.put,zD,zE,zF])
 refine nO (i:=64) (by kernel_rfl) rfl (fun K hK=> ?_);go_simp;refine(ref06_Same _ Av A cv c r O.out LD.out.a.o (by unfold maxLen;omega)).mono ?_;rintro e wq ⟨rfl,hb⟩;replace LD:=LH (LD.out.below hb);clear hb;refine hK.out _ _ (fun _ _=>LD.out) ?_;clear hK K
 (try simp only [zA,zB,zC,Act.put,zD,zE,zF])
 refine nP 65 (Value.bool true) (h:= ?_)
 (try simp only [zA,zB,zC,Act.put,zD,zE,zF])
 refine nO (i:=66) (by kernel_rfl) rfl (fun K hK=> ?_);go_simp;refine hK.out _ _ (fun _ _=>LD.out) ?_;clear hK K
 (try simp only [zA,zB,zC,Act.put,zD,zE,zF])
 refine nD (by kernel_rfl) ?_ _;refine NoPanic.normal ?_;have B:=LH LD.out.a.le;clear LD O HC HOk;go_wp2_with fail;exact bR (v:=.bool true) (by simp only [results,Tryz.results11];go_simp) rfl ⟨rfl,B.out⟩
theorem crew_Apart (w:World) (a b:Nat) (ha:a<2^64) (hb:b<2^64) :Calls Tryz.prog 109 #[.int .u64 a,.int .u64 b] w fun e w'=>e=.returned (.bool (apartC a b))∧Below w.heap.size w w':=by
 have h:=(bits_nat .u64 64 (by decide) (fun n h0 h1=>wrap_u64s h0 h1) a b ha hb).1
 have e:apartC a b= (((a &&& b:Nat) :Int) == 0):=by
  unfold apartC;rw [Bool.eq_iff_iff];simp
 rw [e];generalize ((a &&& b:Nat) :Int) =z at h⊢;clear ha hb e
 go_enter Tryz.func109,Tryz.ntmps109
 go_wp2_with fail;exact bR (v:=.bool (z == 0)) (by simp only [results,Tryz.results109];go_simp) rfl ⟨rfl,Below.refl _ _⟩
def encU:Enc Nat 1:=⟨fun x=> [.int .u64 (x:Int)],fun _=>rfl,by intro x u hu;simp at hu;subst hu;rfl⟩
theorem sensor_refused (w:World) (g dg:Nat) (s:Sen) (x:Ltr) (h:SenAt w g dg s) (h1:s.p.kids<2^64) (h2:s.heard<2^64) (h3:s.cover<2^64) (h4:x.c<2^64) :
 Calls Tryz.prog 58 #[.pointer (some ⟨g,0,none⟩),ltrV x] w fun e w'=>e=.returned (.int .i64 (refusedE s x))∧Below w.heap.size w w':=by
 have HH1:=LH (fun W=>crew_Has s.p.kids x.f h1 W);have HH2:=LH (fun W=>crew_Has s.heard x.f h2 W);have HA:=LH (fun W=>crew_Apart W s.cover x.c h3 h4);have L0:Hid ((w.alloc (.cells #[.int .i64 x.e,.int .i64 x.f,.int .u64 x.c,.string ⟨x.b.toArray⟩] 108)).heap[w.heap.size]? =some (.cells #[.int .i64 x.e,.int .i64 x.f,.int .u64 x.c,.string ⟨x.b.toArray⟩] 108 (0,0))):=LH (heap_alloc_new w _);have S0:=LH (h.below ((Below.refl w.heap.size w).alloc (Nat.le_refl _) (.cells #[.int .i64 x.e,.int .i64 x.f,.int .u64 x.c,.string ⟨x.b.toArray⟩] 108)));have BW0:Hid (Below w.heap.size w (w.alloc (.cells #[.int .i64 x.e,.int .i64 x.f,.int .u64 x.c,.string ⟨x.b.toArray⟩] 108))):=LH bE;obtain⟨E,hE⟩ : ∃E,E=refusedE s x:=⟨_,rfl⟩;rw [←hE];unfold refusedE at hE;unfold SenAt at S0;unfold ltrV;obtain⟨l,k,kd,⟨me,kids,wait⟩,ep,ti,hd,cv,st⟩:=s;obtain⟨xe,xf,xc,xb⟩:=x;dsimp only at*;have HE:=LH hE;clear h h1 h2 h3 h4 hE;generalize hasC kids xf=z1 at HH1 HE;generalize hasC hd xf=z2 at HH2 HE;generalize apartC cv xc=z3 at HA HE
 go_enter Tryz.func58,Tryz.ntmps58
 go_upto_region 1 with fail;generalize w.alloc (.cells #[.int .i64 xe,.int .i64 xf,.int .u64 xc,.string ⟨xb.toArray⟩] 108) =W0 at L0 S0 BW0⊢;by_cases q1:xe=ep
 case neg=>
  have q1i: (xe == ep) =false:=by simpa using q1
  have Q1:=LH q1;clear q1;have cg:=bC S0.out;have zg:=lB S0.out;have cx:=bC L0.out;have zx:=lB L0.out;refine rX (by kernel_rfl) (by kernel_rfl) ?_
  repeat (go_big_quiet_step (fail))
  refine wpQuiet_nil ?_;intro W1 hbq;replace hbq:=bX hbq;have S1:=LH (bB S0.out hbq);have L1:=LH (bB L0.out hbq);have BW1:=LH (Below.then_ BW0.out hbq);clear hbq cg zg cx zx S0 L0 BW0;go_wp2_with fail;exact bR (v:=.int .i64 17) (by simp only [results,Tryz.results58];go_simp) rfl ⟨by rw [HE.out];rw [if_pos Q1.out],BW1.out⟩
 subst q1;rw [if_neg (by simp)] at HE;have cg:=bC S0.out;have zg:=lB S0.out;have cx:=bC L0.out;have zx:=lB L0.out;refine rX (by kernel_rfl) (by kernel_rfl) ?_
 repeat (go_big_quiet_step (fail))
 refine wpQuiet_nil ?_;intro W1 hbq;replace hbq:=bX hbq;have S1:=LH (bB S0.out hbq);have L1:=LH (bB L0.out hbq);have BW1:=LH (Below.then_ BW0.out hbq);clear hbq cg zg cx zx S0 L0 BW0
 cases z1
 case false=>
  go_upto_region 3 with fail;have cg:=bC S1.out;have zg:=lB S1.out;have cx:=bC L1.out;have zx:=lB L1.out;refine rX (by kernel_rfl) (by kernel_rfl) ?_
  repeat (go_big_quiet_step (first
   | (go_at_call 108;exact quiet_ext (HH1.out _))))
  refine wpQuiet_nil ?_;intro W2 hbq;replace hbq:=bX hbq;have S2:=LH (bB S1.out hbq);have L2:=LH (bB L1.out hbq);have BW2:=LH (Below.then_ BW1.out hbq);clear hbq cg zg cx zx S1 L1 BW1;go_wp2_with fail;exact bR (v:=.int .i64 16) (by simp only [results,Tryz.results58];go_simp) rfl ⟨by rw [HE.out];simp,BW2.out⟩
 case true=>
  rw [if_neg (by simp)] at HE;go_upto_region 3 with fail;have cg:=bC S1.out;have zg:=lB S1.out;have cx:=bC L1.out;have zx:=lB L1.out;refine rX (by kernel_rfl) (by kernel_rfl) ?_
  repeat (go_big_quiet_step (first
   | (go_at_call 108;exact quiet_ext (HH1.out _))))
  refine wpQuiet_nil ?_;intro W2 hbq;replace hbq:=bX hbq;have S2:=LH (bB S1.out hbq);have L2:=LH (bB L1.out hbq);have BW2:=LH (Below.then_ BW1.out hbq);clear hbq cg zg cx zx S1 L1 BW1;go_upto_region 5 with fail
  cases st
  case true=>
   have cg:=bC S2.out;have zg:=lB S2.out;go_wp2_with fail;exact bR (v:=.int .i64 18) (by simp only [results,Tryz.results58];go_simp) rfl ⟨by rw [HE.out];simp,BW2.out⟩
  case false=>
   rw [if_neg (by simp)] at HE;have cg:=bC S2.out;have zg:=lB S2.out;go_upto_region 7 with fail;clear cg zg
   cases z2
   case true=>
    have cg:=bC S2.out;have zg:=lB S2.out;have cx:=bC L2.out;have zx:=lB L2.out;refine rX (by kernel_rfl) (by kernel_rfl) ?_
    repeat (go_big_quiet_step (first
     | (go_at_call 108;exact quiet_ext (HH2.out _))
     | (go_at_call 109;exact quiet_ext (HA.out _))))
    refine wpQuiet_nil ?_;intro W3 hbq;replace hbq:=bX hbq;have S3:=LH (bB S2.out hbq);have L3:=LH (bB L2.out hbq);have BW3:=LH (Below.then_ BW2.out hbq);clear hbq cg zg cx zx S2 L2 BW2;go_wp2_with fail;exact bR (v:=.int .i64 19) (by simp only [results,Tryz.results58];go_simp) rfl ⟨by rw [HE.out];simp,BW3.out⟩
   case false=>
    have cg:=bC S2.out;have zg:=lB S2.out;have cx:=bC L2.out;have zx:=lB L2.out;refine rX (by kernel_rfl) (by kernel_rfl) ?_
    repeat (go_big_quiet_step (first
     | (go_at_call 108;exact quiet_ext (HH2.out _))
     | (go_at_call 109;exact quiet_ext (HA.out _))))
    refine wpQuiet_nil ?_;intro W3 hbq;replace hbq:=bX hbq;have S3:=LH (bB S2.out hbq);have L3:=LH (bB L2.out hbq);have BW3:=LH (Below.then_ BW2.out hbq);clear hbq cg zg cx zx S2 L2 BW2
    cases z3
    case false=>
     go_wp2_with fail;exact bR (v:=.int .i64 19) (by simp only [results,Tryz.results58];go_simp) rfl ⟨by rw [HE.out];simp,BW3.out⟩
    case true=>
     go_wp2_with fail;exact bR (v:=.int .i64 0) (by simp only [results,Tryz.results58];go_simp) rfl ⟨by rw [HE.out];simp,BW3.out⟩
def MorePost (K l:Nat) (k:Int) (r:List Nd) (m: (Nat×Int×Int×List Nd)×Int) (w:World) (e:Ending) (w':World) :Prop:=
 (moreE l k r m≠0∧e=.returned (.tuple #[.pointer none,.int .i64 (moreE l k r m)])∧Below w.heap.size w w')∨(moreE l k r m=0∧MergePost l K k r m.1.2.2.2 w e w')
theorem sensor_more (w:World) (g K l:Nat) (s:Sen) (r:List Nd) (F:Nat→Prop) (body:List UInt8) (h:SensAt w g K l s r F) (hL:lightOf l r s.k=true) (hn:r.length≤33554430) (hb:body.length≤8000000) :
 Calls Tryz.prog 60 #[.pointer (some ⟨g,0,none⟩),.string ⟨body.toArray⟩] w (MorePost K l s.k r (readW body) w):=by
 obtain⟨dg,F0,hF,hS,hsl,hkd,hD,hng⟩:=h;have HDg:=LH hD;have hll:=hD.l_le;have hk:1≤s.k∧s.k≤1048576:=by obtain⟨p,F0,_,_,_,_,h1,h2⟩:=hD.parts;exact⟨h1,h2⟩
 have HIs:=LH (dig_is hD hk.1 (Int.le_refl _));have HFt:=LH hD.fits;have S0:=LH hS;have HPk:=LH (fun W=>wire_Peek W body hb);have HDc:=LH (fun W h=>wire_Decode W body K hb h);have HOk:=LH (fun h=>readW_ok body h);have HL:=LH hL;unfold PeekPost at HPk;unfold DecPost at HDc;have HP:Hid (∀e w',((moreE l s.k r (readW body)≠0∧e=.returned (.tuple #[.pointer none,.int .i64 (moreE l s.k r (readW body))])∧Below w.heap.size w w')∨(moreE l s.k r (readW body) =0∧MergePost l K s.k r (readW body).1.2.2.2 w e w'))→MorePost K l s.k r (readW body) w e w'):=LH fun _ _ h=>h;clear hF hS hD hng hL;generalize readW body=M at HPk HDc HOk HP;obtain⟨⟨l2,k2,n2,r2⟩,e2⟩:=M;unfold SenAt at S0;obtain⟨sl,sk,sK,⟨me,kids,wait⟩,ep,ti,hd,cv,st⟩:=s;dsimp only at*;obtain rfl:=hsl;obtain rfl:=hkd;obtain⟨E,hE⟩ : ∃E,E=moreE l sk r ((l2,k2,n2,r2),e2):=⟨_,rfl⟩;rw [←hE] at HP;unfold moreE at hE;dsimp only at hE;have HE:=LH hE;clear hE
 go_enter Tryz.func60,Tryz.ntmps60
 go_wp2_with fail;refine(HPk.out w).mono ?_;rintro en w1 ⟨rfl,hb1⟩;have al:=hb1.trans (((Below.refl w1.heap.size w1).alloc (Nat.le_refl _) (.cells #[.int .i64 l2,.int .i64 k2,.int .i64 0] 23)).mono hb1.size);have S2:=LH (bB S0.out al);have D2:=LH (HDg.out.below al);have B2:=LH al;have C2:=LH (heap_alloc_new w1 (.cells #[.int .i64 l2,.int .i64 k2,.int .i64 0] 23));clear hb1 al S0 HDg HPk;go_upto_region 2 with fail;obtain⟨pc,hpc⟩ : ∃q,q=w1.heap.size:=⟨_,rfl⟩;rw [←hpc] at C2⊢;generalize w1.alloc (.cells #[.int .i64 l2,.int .i64 k2,.int .i64 0] 23) =w2 at S2 D2 B2 C2⊢;clear hpc;by_cases h0:e2=0
 case neg=>
  have h0i: (e2 == 0) =false:=by simpa using h0
  have HE2:Hid (E=e2):=LH (HE.out.trans (if_pos h0));have H0:=LH h0;clear h0;go_wp2_with fail;exact bR (v:=.tuple #[.pointer none,.int .i64 e2]) (by simp only [results,Tryz.results60];go_simp) rfl (HP.out _ _ (.inl ⟨by rw [HE2.out];exact H0.out,by rw [HE2.out],B2.out⟩))
 have HE1:=LH (HE.out.trans (if_neg (by simpa using h0)));subst h0;clear HE;have ok:=LH (HOk.out rfl);go_upto_region 4 with fail;have cg:=bC S2.out;have zg:=lB S2.out;have cc:=bC C2.out;have zc:=lB C2.out;by_cases h1:l2=l
 case neg=>
  have h1i: ((l2:Int) == (l:Int)) =false:=by simp;omega
  have h1j: (l2 == l) =false:=by simpa using h1
  have h1k: ((l2:Int) != (l:Int)) =true:=by simp;omega
  have HE2:=LH (HE1.out.trans (if_pos (.inl h1)));clear h1;refine rX (by kernel_rfl) (by kernel_rfl) ?_
  repeat (go_big_quiet_step (fail))
  refine wpQuiet_nil ?_;intro w3 hbq;replace hbq:=bX hbq;have B3:=LH (Below.then_ B2.out hbq);clear hbq;go_wp2_with fail;exact bR (v:=.tuple #[.pointer none,.int .i64 6]) (by simp only [results,Tryz.results60];go_simp) rfl (HP.out _ _ (.inl ⟨by rw [HE2.out];decide,by rw [HE2.out],B3.out⟩))
 subst h1;by_cases h2:k2=sk
 case neg=>
  have h2i: (k2 == sk) =false:=by simpa using h2
  have HE2:=LH (HE1.out.trans (if_pos (.inr h2)));clear h2;refine rX (by kernel_rfl) (by kernel_rfl) ?_
  repeat (go_big_quiet_step (fail))
  refine wpQuiet_nil ?_;intro w3 hbq;replace hbq:=bX hbq;have B3:=LH (Below.then_ B2.out hbq);clear hbq;go_wp2_with fail;exact bR (v:=.tuple #[.pointer none,.int .i64 6]) (by simp only [results,Tryz.results60];go_simp) rfl (HP.out _ _ (.inl ⟨by rw [HE2.out];decide,by rw [HE2.out],B3.out⟩))
 subst h2;have HE3:=LH (HE1.out.trans (if_neg (by simp)));clear HE1;refine rX (by kernel_rfl) (by kernel_rfl) ?_
 repeat (go_big_quiet_step (fail))
 refine wpQuiet_nil ?_;intro w3 hbq;replace hbq:=bX hbq;have B3:=LH (Below.then_ B2.out hbq);have S3:=LH (bB S2.out hbq);have D3:=LH (D2.out.below hbq);clear hbq S2 D2 B2 C2 cg zg cc zc;have cg:=bC S3.out;have zg:=lB S3.out;have HD0:=LH (HDc.out w3 (fun _=>by have:=HIs.out;unfold isDig at this;simp only [Bool.and_eq_true] at this;exact this.1));unfold DigPost at HD0;clear HDc;go_wp2_with fail;refine HD0.out.mono ?_;rintro en w4 hdp
 obtain⟨g2,F2,rfl,hd4,hf4,hb4⟩ : ∃g2 F2,en=.returned (.tuple #[.pointer (some ⟨g2,0,none⟩),.int .i64 0])∧DigAt w4 g2 K l2 k2 r2 F2∧(∀b,F2 b→w3.heap.size≤b)∧Below w3.heap.size w3 w4:=by
  rcases hdp with ⟨q,_⟩ | ⟨_,q⟩
  ·exact absurd rfl q
  ·exact q
 have D4:=LH hd4;have D4a:=LH (D3.out.below hb4);have B4:=LH (Below.then_ B3.out hb4);have S4:=LH (bB S3.out hb4);clear hdp hd4 hf4 hb4 D3 B3 S3 cg zg HD0;have cg:=bC S4.out;have zg:=lB S4.out;have HnR:=LH (And.intro hn (show r2.length≤33554430 by have h5:=ok.out.len;have h6:=ok.out.k.2;dsimp only at h5 h6;omega));by_cases h5:72057594037927935<sumR r+sumR r2
 ·have HE4:=LH (HE3.out.trans (if_pos h5))
  have hbe:blendErr l2 l2 r r2=5:=by unfold blendErr;rw [if_neg (by simp),if_pos h5]
  have HMn:=LH (fun W h1 h2=>blend_Merge_no W dg K l2 k2 r F0 g2 K l2 k2 r2 F2 h1 h2 (by rw [hbe];decide));rw [hbe] at HMn;clear h5 hbe;go_wp2_with fail;refine(HMn.out w4 D4a.out D4.out).mono ?_;rintro en w5 ⟨rfl,hb5⟩;have B5:=LH (Below.then_ B4.out hb5);clear hb5 cg zg;go_wp2_with fail;exact bR (v:=.tuple #[.pointer none,.int .i64 5]) (by simp only [results,Tryz.results60];go_simp) rfl (HP.out _ _ (.inl ⟨by rw [HE4.out];decide,by rw [HE4.out],B5.out⟩))
 ·have HE4:=LH (HE3.out.trans (if_neg h5))
  have hbe:blendErr l2 l2 r r2=0:=by unfold blendErr;rw [if_neg (by simp),if_neg h5]
  have HMy:=LH (fun W h1 h2=>blend_Merge W dg K l2 k2 r F0 g2 K k2 r2 F2 h1 h2 HL.out ok.out.light hbe HnR.out.1 HnR.out.2);clear h5 hbe;rw [show min k2 k2=k2 by omega] at HMy;unfold MergePost at HMy;go_wp2_with fail;refine(HMy.out w4 D4a.out D4.out).mono ?_;rintro en w5 ⟨g5,F5,rc,rfl,hd5,hf5,hj5,hb5⟩;have R5:=LH (And.intro hd5 (And.intro (fun b h=>Nat.le_trans B4.out.size (hf5 b h)) (And.intro hj5 (Below.then_ B4.out hb5))));clear hd5 hf5 hj5 hb5 cg zg;go_wp2_with fail;exact bR (v:=.tuple #[.pointer (some ⟨g5,0,none⟩),.int .i64 0]) (by simp only [results,Tryz.results60];go_simp) rfl (HP.out _ _ (.inr ⟨by rw [HE4.out],g5,F5,rc,rfl,R5.out.1,R5.out.2.1,R5.out.2.2.1,R5.out.2.2.2⟩))
abbrev q12 (W:World) (b:Nat) (v0 v1 v2 v3 v4 v5 v6 v7 v8 v9 v10 v11:Value) :World:=((((((((((((W.setCell ⟨b,0,none⟩ v0).setCell ⟨b,1,none⟩ v1).setCell ⟨b,2,none⟩ v2).setCell ⟨b,3,none⟩ v3).setCell ⟨b,4,none⟩ v4).setCell ⟨b,5,none⟩ v5).setCell ⟨b,6,none⟩ v6).setCell ⟨b,7,none⟩ v7).setCell ⟨b,8,none⟩ v8).setCell ⟨b,9,none⟩ v9).setCell ⟨b,10,none⟩ v10).setCell ⟨b,11,none⟩ v11)
theorem q12e (W:World) (b:Nat) (v0 v1 v2 v3 v4 v5 v6 v7 v8 v9 v10 v11:Value) : ((((((((((((W.setCell ⟨b,0,none⟩ v0).setCell ⟨b,1,none⟩ v1).setCell ⟨b,2,none⟩ v2).setCell ⟨b,3,none⟩ v3).setCell ⟨b,4,none⟩ v4).setCell ⟨b,5,none⟩ v5).setCell ⟨b,6,none⟩ v6).setCell ⟨b,7,none⟩ v7).setCell ⟨b,8,none⟩ v8).setCell ⟨b,9,none⟩ v9).setCell ⟨b,10,none⟩ v10).setCell ⟨b,11,none⟩ v11) =q12 W b v0 v1 v2 v3 v4 v5 v6 v7 v8 v9 v10 v11:=rfl
theorem store12 {W:World} {b t:Nat} {z0 z1 z2 z3 z4 z5 z6 z7 z8 z9 z10 z11:Value} (h:W.heap[b]? =some (.cells #[z0,z1,z2,z3,z4,z5,z6,z7,z8,z9,z10,z11] t (0,0))) (v0 v1 v2 v3 v4 v5 v6 v7 v8 v9 v10 v11:Value) : (q12 W b v0 v1 v2 v3 v4 v5 v6 v7 v8 v9 v10 v11).heap[b]? =some (.cells #[v0,v1,v2,v3,v4,v5,v6,v7,v8,v9,v10,v11] t (0,0)):=by
 have h0: (W.setCell ⟨b,0,none⟩ v0).heap[b]? =some (.cells #[v0,z1,z2,z3,z4,z5,z6,z7,z8,z9,z10,z11] t (0,0)):=zH (i:=0) h v0;have h1: ((W.setCell ⟨b,0,none⟩ v0).setCell ⟨b,1,none⟩ v1).heap[b]? =some (.cells #[v0,v1,z2,z3,z4,z5,z6,z7,z8,z9,z10,z11] t (0,0)):=zH (i:=1) h0 v1;have h2: (((W.setCell ⟨b,0,none⟩ v0).setCell ⟨b,1,none⟩ v1).setCell ⟨b,2,none⟩ v2).heap[b]? =some (.cells #[v0,v1,v2,z3,z4,z5,z6,z7,z8,z9,z10,z11] t (0,0)):=zH (i:=2) h1 v2;have h3: ((((W.setCell ⟨b,0,none⟩ v0).setCell ⟨b,1,none⟩ v1).setCell ⟨b,2,none⟩ v2).setCell ⟨b,3,none⟩ v3).heap[b]? =some (.cells #[v0,v1,v2,v3,z4,z5,z6,z7,z8,z9,z10,z11] t (0,0)):=zH (i:=3) h2 v3;have h4: (((((W.setCell ⟨b,0,none⟩ v0).setCell ⟨b,1,none⟩ v1).setCell ⟨b,2,none⟩ v2).setCell ⟨b,3,none⟩ v3).setCell ⟨b,4,none⟩ v4).heap[b]? =some (.cells #[v0,v1,v2,v3,v4,z5,z6,z7,z8,z9,z10,z11] t (0,0)):=zH (i:=4) h3 v4;have h5: ((((((W.setCell ⟨b,0,none⟩ v0).setCell ⟨b,1,none⟩ v1).setCell ⟨b,2,none⟩ v2).setCell ⟨b,3,none⟩ v3).setCell ⟨b,4,none⟩ v4).setCell ⟨b,5,none⟩ v5).heap[b]? =some (.cells #[v0,v1,v2,v3,v4,v5,z6,z7,z8,z9,z10,z11] t (0,0)):=zH (i:=5) h4 v5;have h6: (((((((W.setCell ⟨b,0,none⟩ v0).setCell ⟨b,1,none⟩ v1).setCell ⟨b,2,none⟩ v2).setCell ⟨b,3,none⟩ v3).setCell ⟨b,4,none⟩ v4).setCell ⟨b,5,none⟩ v5).setCell ⟨b,6,none⟩ v6).heap[b]? =some (.cells #[v0,v1,v2,v3,v4,v5,v6,z7,z8,z9,z10,z11] t (0,0)):=zH (i:=6) h5 v6;have h7: ((((((((W.setCell ⟨b,0,none⟩ v0).setCell ⟨b,1,none⟩ v1).setCell ⟨b,2,none⟩ v2).setCell ⟨b,3,none⟩ v3).setCell ⟨b,4,none⟩ v4).setCell ⟨b,5,none⟩ v5).setCell ⟨b,6,none⟩ v6).setCell ⟨b,7,none⟩ v7).heap[b]? =some (.cells #[v0,v1,v2,v3,v4,v5,v6,v7,z8,z9,z10,z11] t (0,0)):=zH (i:=7) h6 v7;have h8: (((((((((W.setCell ⟨b,0,none⟩ v0).setCell ⟨b,1,none⟩ v1).setCell ⟨b,2,none⟩ v2).setCell ⟨b,3,none⟩ v3).setCell ⟨b,4,none⟩ v4).setCell ⟨b,5,none⟩ v5).setCell ⟨b,6,none⟩ v6).setCell ⟨b,7,none⟩ v7).setCell ⟨b,8,none⟩ v8).heap[b]? =some (.cells #[v0,v1,v2,v3,v4,v5,v6,v7,v8,z9,z10,z11] t (0,0)):=zH (i:=8) h7 v8;have h9: ((((((((((W.setCell ⟨b,0,none⟩ v0).setCell ⟨b,1,none⟩ v1).setCell ⟨b,2,none⟩ v2).setCell ⟨b,3,none⟩ v3).setCell ⟨b,4,none⟩ v4).setCell ⟨b,5,none⟩ v5).setCell ⟨b,6,none⟩ v6).setCell ⟨b,7,none⟩ v7).setCell ⟨b,8,none⟩ v8).setCell ⟨b,9,none⟩ v9).heap[b]? =some (.cells #[v0,v1,v2,v3,v4,v5,v6,v7,v8,v9,z10,z11] t (0,0)):=zH (i:=9) h8 v9;have h10: (((((((((((W.setCell ⟨b,0,none⟩ v0).setCell ⟨b,1,none⟩ v1).setCell ⟨b,2,none⟩ v2).setCell ⟨b,3,none⟩ v3).setCell ⟨b,4,none⟩ v4).setCell ⟨b,5,none⟩ v5).setCell ⟨b,6,none⟩ v6).setCell ⟨b,7,none⟩ v7).setCell ⟨b,8,none⟩ v8).setCell ⟨b,9,none⟩ v9).setCell ⟨b,10,none⟩ v10).heap[b]? =some (.cells #[v0,v1,v2,v3,v4,v5,v6,v7,v8,v9,v10,z11] t (0,0)):=zH (i:=10) h9 v10;have h11: ((((((((((((W.setCell ⟨b,0,none⟩ v0).setCell ⟨b,1,none⟩ v1).setCell ⟨b,2,none⟩ v2).setCell ⟨b,3,none⟩ v3).setCell ⟨b,4,none⟩ v4).setCell ⟨b,5,none⟩ v5).setCell ⟨b,6,none⟩ v6).setCell ⟨b,7,none⟩ v7).setCell ⟨b,8,none⟩ v8).setCell ⟨b,9,none⟩ v9).setCell ⟨b,10,none⟩ v10).setCell ⟨b,11,none⟩ v11).heap[b]? =some (.cells #[v0,v1,v2,v3,v4,v5,v6,v7,v8,v9,v10,v11] t (0,0)):=zH (i:=11) h10 v11;exact h11
theorem store12_other {W:World} {b q:Nat} (h:q≠b) (v0 v1 v2 v3 v4 v5 v6 v7 v8 v9 v10 v11:Value) : (q12 W b v0 v1 v2 v3 v4 v5 v6 v7 v8 v9 v10 v11).heap[q]? =W.heap[q]? :=
 (Below.heap_setCell _ _ _ _ h).trans ((Below.heap_setCell _ _ _ _ h).trans ((Below.heap_setCell _ _ _ _ h).trans ((Below.heap_setCell _ _ _ _ h).trans ((Below.heap_setCell _ _ _ _ h).trans ((Below.heap_setCell _ _ _ _ h).trans ((Below.heap_setCell _ _ _ _ h).trans ((Below.heap_setCell _ _ _ _ h).trans ((Below.heap_setCell _ _ _ _ h).trans ((Below.heap_setCell _ _ _ _ h).trans ((Below.heap_setCell _ _ _ _ h).trans ((Below.heap_setCell _ _ _ _ h).trans (rfl))))))))))))
theorem store12_turn {F:Nat→Prop} {w W:World} {b:Nat} (h:Turn F w W) (hb:F b) (v0 v1 v2 v3 v4 v5 v6 v7 v8 v9 v10 v11:Value) :Turn F w (q12 W b v0 v1 v2 v3 v4 v5 v6 v7 v8 v9 v10 v11):=by
 have h0:=h.setCell (p:=⟨b,0,none⟩) (.inl hb) v0;have h1:=h0.setCell (p:=⟨b,1,none⟩) (.inl hb) v1;have h2:=h1.setCell (p:=⟨b,2,none⟩) (.inl hb) v2;have h3:=h2.setCell (p:=⟨b,3,none⟩) (.inl hb) v3;have h4:=h3.setCell (p:=⟨b,4,none⟩) (.inl hb) v4;have h5:=h4.setCell (p:=⟨b,5,none⟩) (.inl hb) v5;have h6:=h5.setCell (p:=⟨b,6,none⟩) (.inl hb) v6;have h7:=h6.setCell (p:=⟨b,7,none⟩) (.inl hb) v7;have h8:=h7.setCell (p:=⟨b,8,none⟩) (.inl hb) v8;have h9:=h8.setCell (p:=⟨b,9,none⟩) (.inl hb) v9;have h10:=h9.setCell (p:=⟨b,10,none⟩) (.inl hb) v10;have h11:=h10.setCell (p:=⟨b,11,none⟩) (.inl hb) v11;exact h11
theorem crew_Union2 (w:World) (base:Nat) (v:Value) (a b:Nat) (ho:Own w base 59 encU v [a,b]) (ha:a<2^64) (hb:b<2^64) :Calls Tryz.prog 18 #[v] w fun e w'=>e=.returned (.int .u64 ((a ||| b:Nat) :Int))∧Below w.heap.size w w':=by
 obtain⟨A,c,rfl,_⟩:=ho.form;have HO:=LH (ho.base_le (Nat.zero_le _));have h1:=(bits_nat .u64 64 (by decide) (fun n h0 h1=>wrap_u64s h0 h1) 0 a (by decide) ha).2;have h2:=(bits_nat .u64 64 (by decide) (fun n h0 h1=>wrap_u64s h0 h1) a b ha hb).2;rw [Nat.zero_or] at h1;have H1:=LH h1;have H2:=LH h2;clear ho h1 h2
 go_enter Tryz.func18,Tryz.ntmps18
 go_wp2_with fail
 go_loopw [3,8] (fun u j wr=>∃q:Nat,j=.int .i64 q∧q≤2∧u=.int .u64 ((if q=0 then 0 else if q=1 then a else a ||| b:Nat) :Int)∧Below w.heap.size w wr) (fun _ j _=>2 - (intOf j).toNat)
 case atStart=>exact⟨0,rfl,by omega,rfl,Below.refl _ _⟩
 case round=>
  obtain⟨q,rfl,hq,rfl,hB⟩:=hrel;have HB:=LH hB;have HR:=LH (HO.out.below hB);clear hB
  match q,hq with
  |0,_=>
   obtain⟨bb,off,rfl,hbb,hc⟩:=HR.out.sl.at_ (k:=0) (by simp);have d0:=hc 0 (.int .u64 (a:Int)) rfl;have zb:=cell_lt d0;simp only [Nat.zero_mul,Nat.add_zero] at d0;have h1:bits .or .u64 0 (a:Int) =a:=H1.out;clear hc;go_wp2_with fail;go_roundw
   case rel=>exact⟨1,by go_num,by omega,by first|rfl|simp [h1] | (rw [h1];rfl) |simpa using h1,HB.out⟩
   case measure=>simp [intOf]
  |1,_=>
   obtain⟨bb,off,rfl,hbb,hc⟩:=HR.out.sl.at_ (k:=1) (by simp);have d0:=hc 0 (.int .u64 (b:Int)) rfl;have zb:=cell_lt d0;simp only [Nat.one_mul,Nat.add_zero] at d0;have h2:=H2.out;clear hc;go_wp2_with fail;go_roundw
   case rel=>exact⟨2,by go_num,by omega,by first|rfl|simp [h2] | (rw [h2];rfl),HB.out⟩
   case measure=>simp [intOf]
  |2,_=>
   go_wp2_with fail;exact bR (v:=.int .u64 ((a ||| b:Nat) :Int)) (by simp only [results,Tryz.results18];go_simp) rfl ⟨rfl,HB.out⟩
def NextTo (w:World) (g K l:Nat) (s:Sen) (F:Nat→Prop) (e:Ending) (w':World) :Prop:=
 (s.ep=1099511627776∧e=.returned (.int .i64 21)∧Below w.heap.size w w')∨(s.ep≠1099511627776∧e=.returned (.int .i64 0)∧SensTo w g K l (senNew s.l s.k s.kd s.p (s.ep+1)) [] F w')
theorem sensor_Next (w:World) (g K l:Nat) (s:Sen) (r:List Nd) (F:Nat→Prop) (h:SensAt w g K l s r F) (ho:SenOk s) :
 Calls Tryz.prog 41 #[.pointer (some ⟨g,0,none⟩)] w (NextTo w g K l s F):=by
 obtain⟨dg,F0,hF,hS,hsl,hkd,hD,hng⟩:=h;have hk:1≤s.k∧s.k≤1048576:=by obtain⟨p,F0,_,_,_,_,h1,h2⟩:=hD.parts;exact⟨h1,h2⟩
 have HIs:=LH (dig_is hD hk.1 (Int.le_refl _));have hkids:=ho.kids;have e0:=ho.e0;have e1:=ho.e1;have HOp:=LH ho.p;have HFg:=LH (show F g by rw [hF];exact .inl rfl);have S0:=LH hS;clear hF hS hD hng hk ho;unfold SenAt at S0;obtain⟨sl,sk,sK,⟨me,kids,wait⟩,ep,ti,hd,cv,st⟩:=s;dsimp only at*;obtain rfl:=hsl;obtain rfl:=hkd;have hgw:=lB S0.out;have HP:Hid (∀e w',NextTo w g K l ⟨l,sk,K,⟨me,kids,wait⟩,ep,ti,hd,cv,st⟩ F e w'→NextTo w g K l ⟨l,sk,K,⟨me,kids,wait⟩,ep,ti,hd,cv,st⟩ F e w'):=LH fun _ _ h=>h
 have HNw:=LH (fun W (hq:ep≠1099511627776)=>sensor_New W l K sk ⟨me,kids,wait⟩ (ep+1) hkids (by
  unfold newS;rw [HIs.out,HOp.out];simp
  omega))
 unfold SenPost confV plcV at HNw;dsimp only at HNw
 go_enter Tryz.func41,Tryz.ntmps41
 have cg:=bC S0.out;go_upto_region 3 with fail;by_cases hq:ep=1099511627776
 ·have hqi: (ep == 1099511627776) =true:=by simpa using hq
  have HQ:=LH hq;clear hq;go_wp2_with fail;exact bR (v:=.int .i64 21) (by simp only [results,Tryz.results41];go_simp) rfl (HP.out _ _ (.inl ⟨HQ.out,rfl,Below.refl _ _⟩))
 ·have hqi: (ep == 1099511627776) =false:=by simpa using hq
  have HQ:=LH hq;have HN2:=LH (fun W=>HNw.out W hq);clear hq HNw;have hw:wrap64 (ep+1) =ep+1:=by unfold wrap64;omega
  have hwi:IntKind.i64.wrap (ep+1) =ep+1:=by rw [IntKind.wrap_i64];omega
  go_upto_region 5 with fail;refine wp_region_noPanic ?_;refine wp_region_N (fun W=>Below w.heap.size w W) [] (by kernel_rfl) (Below.drew (Below.refl _ _)) (fun hHeld=> ?_);clear hHeld;have BW:=LH (Below.drew (Below.refl w.heap.size w));generalize w.drew=w1 at BW⊢;refine nP 0 (Value.pointer (some ⟨g,0,none⟩)) (h:= ?_)
  (try simp only [zA,zB,zC,Act.put,zD,zE,zF])
  refine nP 1 (Value.pointer (some ⟨g,0,none⟩)) (h:= ?_)
  (try simp only [zA,zB,zC,Act.put,zD,zE,zF])
  refine nP 2 (Value.pointer (some ⟨g,0,none⟩)) (h:= ?_)
  (try simp only [zA,zB,zC,Act.put,zD,zE,zF])
  refine nT 3 (Value.agg #[.int .i64 l,.int .i64 sk,.int .i64 K]) (y:=Or.inl ⟨by rfl,fun W hW=>by have q1:=bC (bB S0.out hW);have q2:=lB (bB S0.out hW);go_simp⟩) (s:=BW.out) (h:= ?_)
  (try simp only [zA,zB,zC,Act.put,zD,zE,zF])
  refine nP 4 (Value.pointer (some ⟨g,0,none⟩)) (h:= ?_)
  (try simp only [zA,zB,zC,Act.put,zD,zE,zF])
  refine nP 5 (Value.pointer (some ⟨g,0,none⟩)) (h:= ?_)
  (try simp only [zA,zB,zC,Act.put,zD,zE,zF])
  refine nP 6 (Value.pointer (some ⟨g,3,none⟩)) (h:= ?_)
  (try simp only [zA,zB,zC,Act.put,zD,zE,zF])
  refine nT 7 (Value.agg #[.int .i64 me,.int .u64 kids,.int .i64 wait]) (y:=Or.inl ⟨by rfl,fun W hW=>by have q1:=bC (bB S0.out hW);have q2:=lB (bB S0.out hW);go_simp⟩) (s:=BW.out) (h:= ?_)
  (try simp only [zA,zB,zC,Act.put,zD,zE,zF])
  refine nP 8 (Value.pointer (some ⟨g,0,none⟩)) (h:= ?_)
  (try simp only [zA,zB,zC,Act.put,zD,zE,zF])
  refine nP 9 (Value.pointer (some ⟨g,0,none⟩)) (h:= ?_)
  (try simp only [zA,zB,zC,Act.put,zD,zE,zF])
  refine nP 10 (Value.pointer (some ⟨g,6,none⟩)) (h:= ?_)
  (try simp only [zA,zB,zC,Act.put,zD,zE,zF])
  refine nT 11 (Value.int .i64 ep) (y:=Or.inl ⟨by rfl,fun W hW=>by have q1:=bC (bB S0.out hW);have q2:=lB (bB S0.out hW);go_simp⟩) (s:=BW.out) (h:= ?_)
  (try simp only [zA,zB,zC,Act.put,zD,zE,zF])
  refine nP 12 (Value.int .i64 (ep+1)) (h:= ?_)
  (try simp only [zA,zB,zC,Act.put,zD,zE,zF])
  refine nO (i:=13) (by kernel_rfl) rfl (fun K hK=> ?_);go_simp;refine(HN2.out _).mono ?_;rintro e w2 ⟨g2,F2,rfl,hs2,hn2,hb2⟩;refine hK.out _ _ (fun _ _=>Below.then_ BW.out hb2) ?_;clear hK K
  (try simp only [zA,zB,zC,Act.put,zD,zE,zF])
  refine nP 14 (Value.tuple #[Value.pointer (some ⟨g2,0,none⟩),.int .i64 0]) (h:= ?_)
  (try simp only [zA,zB,zC,Act.put,zD,zE,zF])
  refine nP 15 (Value.pointer (some ⟨g2,0,none⟩)) (h:= ?_)
  (try simp only [zA,zB,zC,Act.put,zD,zE,zF])
  refine nP 16 (Value.int .i64 0) (h:= ?_)
  (try simp only [zA,zB,zC,Act.put,zD,zE,zF])
  refine nP 17 (Value.pointer (some ⟨g2,0,none⟩)) (h:= ?_)
  (try simp only [zA,zB,zC,Act.put,zD,zE,zF])
  refine nO (i:=18) (by kernel_rfl) rfl (fun K hK=> ?_);go_simp;refine hK.out _ _ (fun _ _=>Below.then_ BW.out hb2) ?_;clear hK K
  (try simp only [zA,zB,zC,Act.put,zD,zE,zF])
  refine nD (by kernel_rfl) ?_ _;refine NoPanic.normal ?_;obtain⟨dg2,F20,hF2,hS2,hl2,hkd2,hD2,hng2⟩:=hs2;have BW2:=LH (Below.then_ BW.out hb2);have hgg:g≠g2:=fun hh=>by have:=hn2 g2 (by rw [hF2];exact .inl rfl);have:=BW.out.size;omega
  have S2:=LH hS2;unfold SenAt senNew at S2;dsimp only at S2;have HF2:=LH hF2;have HN2b:=LH hn2;have HDd:=LH hD2;have HNg:=LH hng2;have HL2:=LH hl2;have HK2:=LH hkd2;clear hF2 hn2 hS2 hD2 hng2 hl2 hkd2 hb2 hw hwi;go_upto_region 8 with fail;have cg:=bC (bB S0.out BW2.out);have zg:=lB (bB S0.out BW2.out);have cf:=bF (bB S0.out BW2.out);have c2:=bC S2.out;have z2:=lB S2.out;go_wp2_with fail;have hgF: ∀b,F20 b→w.heap.size≤b:=fun b hb=>Nat.le_trans BW.out.size (HN2b.out b (by rw [HF2.out];exact .inr hb));have hT:=LH (store12_turn (b:=g) (Turn.of_below (F:=F) BW2.out) HFg.out (.int .i64 l) (.int .i64 sk) (.int .i64 K) (.int .i64 me) (.int .u64 kids) (.int .i64 wait) (.int .i64 (ep+1)) (.int .i64 0) (.int .u64 0) (.int .u64 (withC 0 me:Nat)) (.bool false) (.pointer (some ⟨dg2,0,none⟩)));have hA:=LH (store12 (bB S0.out BW2.out) (.int .i64 l) (.int .i64 sk) (.int .i64 K) (.int .i64 me) (.int .u64 kids) (.int .i64 wait) (.int .i64 (ep+1)) (.int .i64 0) (.int .u64 0) (.int .u64 (withC 0 me:Nat)) (.bool false) (.pointer (some ⟨dg2,0,none⟩)));have hDk:=LH (HDd.out.keep (fun b hb=>store12_other (W:=w2) (b:=g) (q:=b) (by have:=hgF b hb;omega) (.int .i64 l) (.int .i64 sk) (.int .i64 K) (.int .i64 me) (.int .u64 kids) (.int .i64 wait) (.int .i64 (ep+1)) (.int .i64 0) (.int .u64 0) (.int .u64 (withC 0 me:Nat)) (.bool false) (.pointer (some ⟨dg2,0,none⟩))));exact bR (v:=.int .i64 0) (by simp only [results,Tryz.results41];go_simp) rfl (HP.out _ _ (.inr ⟨HQ.out,rfl,footP g F20,⟨dg2,F20,rfl,hA.out,rfl,rfl,hDk.out,fun hb=>by have:=hgF g hb;omega⟩,hT.out,fun b hb=>by rcases hb with rfl|hb;exact .inl HFg.out;exact .inr (hgF b hb)⟩))
def LtrB (W:World) (px:Nat) (x:Ltr) :Prop:=W.heap[px]? =some (.cells #[.int .i64 x.e,.int .i64 x.f,.int .u64 x.c,.string ⟨x.b.toArray⟩] 108 (0,0))
theorem sensor_Hear1 (W:World) (pt px pe g dg:Nat) (s:Sen) (x:Ltr) (E:Int) (ht:W.heap[pt]? =some (.cells #[.pointer (some ⟨g,0,none⟩)] 30 (0,0))) (hx:LtrB W px x) (he:W.heap[pe]? =some (.cells #[.int .i64 E] 53 (0,0)))
 (h:SenAt W g dg s) (h1:s.p.kids<2^64) (h2:s.heard<2^64) (h3:s.cover<2^64) (h4:x.c<2^64) :
 Calls Tryz.prog 57 #[.pointer (some ⟨pt,0,none⟩),.pointer (some ⟨px,0,none⟩),.pointer (some ⟨pe,0,none⟩)] W fun e w'=>e=.returned (.tuple #[])∧∃W1,Below W.heap.size W W1∧w'=W1.setCell ⟨pe,0,none⟩ (.int .i64 (refusedE s x)):=by
 have HR:=LH (sensor_refused W g dg s x h h1 h2 h3 h4);unfold ltrV at HR;have E0:=LH he;have ct:=bC ht;have zt:=lB ht;unfold LtrB at hx;have cx:=bC hx;have zx:=lB hx;clear ht hx he h
 go_enter Tryz.func57,Tryz.ntmps57
 go_wp2_with fail;refine HR.out.mono ?_;rintro en W1 ⟨rfl,hb⟩;have B:=LH hb;have ce:=bC (bB E0.out hb);have fe:=bF (bB E0.out hb);have ze:=lB (bB E0.out hb);clear hb;go_wp2_with fail
 first|go_end0|skip
 exact⟨rfl,W1,B.out,rfl⟩
def Hear2Post (K l:Nat) (k:Int) (r:List Nd) (m: (Nat×Int×Int×List Nd)×Int) (pd pe:Nat) (W:World) (e:Ending) (w':World) :Prop:=
 e=.returned (.tuple #[])∧((moreE l k r m≠0∧∃W1,Below W.heap.size W W1∧w'= (W1.setCell ⟨pd,0,none⟩ (.pointer none)).setCell ⟨pe,0,none⟩ (.int .i64 (moreE l k r m)))∨
  (moreE l k r m=0∧∃W1 gd Fd rc,DigAt W1 gd K l k rc Fd∧(∀b,Fd b→W.heap.size≤b)∧Joined l k r m.1.2.2.2 rc∧Below W.heap.size W W1∧w'= (W1.setCell ⟨pd,0,none⟩ (.pointer (some ⟨gd,0,none⟩))).setCell ⟨pe,0,none⟩ (.int .i64 0)))
theorem sensor_Hear2 (W:World) (pt px pd pe g K l:Nat) (s:Sen) (r:List Nd) (F:Nat→Prop) (x:Ltr) (V:Option Addr) (E:Int) (ht:W.heap[pt]? =some (.cells #[.pointer (some ⟨g,0,none⟩)] 30 (0,0))) (hx:LtrB W px x) (hd:W.heap[pd]? =some (.cells #[.pointer V] 70 (0,0))) (he:W.heap[pe]? =some (.cells #[.int .i64 E] 53 (0,0)))
 (hne:pd≠pe) (h:SensAt W g K l s r F) (hL:lightOf l r s.k=true) (hn:r.length≤33554430) (hb:x.b.length≤8000000) :
 Calls Tryz.prog 59 #[.pointer (some ⟨pt,0,none⟩),.pointer (some ⟨px,0,none⟩),.pointer (some ⟨pd,0,none⟩),.pointer (some ⟨pe,0,none⟩)] W (Hear2Post K l s.k r (readW x.b) pd pe W):=by
 have HR:=LH (sensor_more W g K l s r F x.b h hL hn hb);unfold MorePost at HR;unfold Hear2Post;generalize readW x.b=M at HR⊢;have E0:=LH he;have D0:=LH hd;have HNE:=LH hne;have ct:=bC ht;have zt:=lB ht;unfold LtrB at hx;have cx:=bC hx;have zx:=lB hx;obtain⟨me,hme⟩ : ∃q,q=moreE l s.k r M:=⟨_,rfl⟩;rw [←hme] at HR⊢;clear ht hx he hd h hL hme hne
 go_enter Tryz.func59,Tryz.ntmps59
 go_wp2_with fail;refine HR.out.mono ?_;rintro en W1 (⟨hm,rfl,hb⟩ | ⟨hm,gd,Fd,rc,rfl,hD,hF,hJ,hb⟩)
 ·have B:=LH hb
  have HM:=LH hm;have ce:=bC (bB E0.out hb);have fe:=bF (bB E0.out hb);have ze:=lB (bB E0.out hb);have cd:=bC (bB D0.out hb);have fd:=bF (bB D0.out hb);have zd:=lB (bB D0.out hb);have hne:=HNE.out;clear hb hm;go_wp2_with fail
  first|go_end0|skip
  exact⟨rfl,.inl ⟨HM.out,W1,B.out,rfl⟩⟩
 ·have B:=LH hb
  have HD:=LH hD;have HF:=LH hF;have HJ:=LH hJ;have HM:=LH hm;have ce:=bC (bB E0.out hb);have fe:=bF (bB E0.out hb);have ze:=lB (bB E0.out hb);have cd:=bC (bB D0.out hb);have fd:=bF (bB D0.out hb);have zd:=lB (bB D0.out hb);have hne:=HNE.out;clear hb hD hF hJ hm;go_wp2_with fail
  first|go_end0|skip
  exact⟨rfl,.inr ⟨HM.out,W1,gd,Fd,rc,HD.out,HF.out,HJ.out,B.out,rfl⟩⟩
@[local go_sem] theorem run_store_funcH (P:Program) (w:World) (a:Addr) (m:Mode) (f:Fn) (ts:Array Value) (cs:Array Value) : (store a (.func f ts cs) m).run P w=stored P w a (.func f ts cs) m:=run_store P w a _ m rfl
structure HerS (w:World) (g K l:Nat) (s:Sen) (r:List Nd) (F:Nat→Prop) (pt px pe pd:Nat) (x:Ltr) (E:Int) (V:Option Addr) (W:World) :Prop where
 t:W.heap[pt]? =some (.cells #[.pointer (some ⟨g,0,none⟩)] 30 (0,0))
 x:LtrB W px x
 e:W.heap[pe]? =some (.cells #[.int .i64 E] 53 (0,0))
 d:W.heap[pd]? =some (.cells #[.pointer V] 70 (0,0))
 sen:SensAt W g K l s r F
 lt: ∀b,F b→b<w.heap.size
 b:Below w.heap.size w W
 h0:w.heap.size≤pt
 h1:pt<px
 h2:px<pe
 h3:pe<pd
section
variable {w W W':World} {g K l:Nat} {s:Sen} {r:List Nd} {F:Nat→Prop} {pt px pe pd:Nat} {x:Ltr} {E E2:Int} {V V2:Option Addr}
theorem HerS.below (h:HerS w g K l s r F pt px pe pd x E V W) (hb:Below W.heap.size W W') :HerS w g K l s r F pt px pe pd x E V W':=
 ⟨bB h.t hb,bB h.x hb,bB h.e hb,bB h.d hb,h.sen.below hb,h.lt,Below.then_ h.b hb,h.h0,h.h1,h.h2,h.h3⟩
theorem HerS.setE (h:HerS w g K l s r F pt px pe pd x E V W) (E2:Int) :HerS w g K l s r F pt px pe pd x E2 V (W.setCell ⟨pe,0,none⟩ (.int .i64 E2)):=by
 have a0:=h.h0;have a1:=h.h1;have a2:=h.h2;have a3:=h.h3;have ot: ∀q,q≠pe→(W.setCell ⟨pe,0,none⟩ (.int .i64 E2)).heap[q]? =W.heap[q]? :=fun q hq=>Below.heap_setCell _ _ _ _ hq;exact⟨(ot _ (by omega)).trans h.t,(ot _ (by omega)).trans h.x,zH (i:=0) h.e _,(ot _ (by omega)).trans h.d,h.sen.keep fun b hb=>ot b (by have:=h.lt b hb;omega),h.lt,Below.setCell (p:=⟨pe,0,none⟩) h.b (by show _≤pe;omega) _,a0,a1,a2,a3⟩
theorem HerS.setD (h:HerS w g K l s r F pt px pe pd x E V W) (V2:Option Addr) :HerS w g K l s r F pt px pe pd x E V2 (W.setCell ⟨pd,0,none⟩ (.pointer V2)):=by
 have a0:=h.h0;have a1:=h.h1;have a2:=h.h2;have a3:=h.h3;have ot: ∀q,q≠pd→(W.setCell ⟨pd,0,none⟩ (.pointer V2)).heap[q]? =W.heap[q]? :=fun q hq=>Below.heap_setCell _ _ _ _ hq;exact⟨(ot _ (by omega)).trans h.t,(ot _ (by omega)).trans h.x,(ot _ (by omega)).trans h.e,zH (i:=0) h.d _,h.sen.keep fun b hb=>ot b (by have:=h.lt b hb;omega),h.lt,Below.setCell (p:=⟨pd,0,none⟩) h.b (by show _≤pd;omega) _,a0,a1,a2,a3⟩
end
def HerD (w:World) (K l:Nat) (k:Int) (r rb:List Nd) (pt px pe pd:Nat) (V:Option Addr) (W:World) :Prop:=∃gd Fd rc,V=some ⟨gd,0,none⟩∧DigAt W gd K l k rc Fd∧(∀b,Fd b→w.heap.size≤b∧b≠pt∧b≠px∧b≠pe∧b≠pd)∧Joined l k r rb rc
def HerR (w:World) (g K l:Nat) (s:Sen) (r:List Nd) (F:Nat→Prop) (pt px pe pd:Nat) (x:Ltr) (rb:List Nd) (e1 e2 e3:Int) (q:Nat) (W:World) :Prop:=
 (q=0∧HerS w g K l s r F pt px pe pd x e1 none W)∨(q=1∧HerS w g K l s r F pt px pe pd x e2 none W)∨(q=2∧∃V,HerS w g K l s r F pt px pe pd x e3 V W∧(e3=0→HerD w K l s.k r rb pt px pe pd V W))
structure HerF (w:World) (g gd K l:Nat) (s:Sen) (hd cv:Nat) (rc:List Nd) (F Fd:Nat→Prop) (pt px:Nat) (x:Ltr) (W:World) :Prop where
 t:W.heap[pt]? =some (.cells #[.pointer (some ⟨g,0,none⟩)] 30 (0,0))
 xx:LtrB W px x
 sn:SenAt W g gd {s with heard:=hd,cover:=cv}
 d:DigAt W gd K l s.k rc Fd
 T:Turn F w W
 hg:F g
 hw:g<w.heap.size
 h1:w.heap.size≤pt
 h2:w.heap.size≤px
 h3: ∀b,Fd b→w.heap.size≤b
section
variable {w W W':World} {g gd K l:Nat} {s:Sen} {hd cv:Nat} {rc:List Nd} {F Fd:Nat→Prop} {pt px:Nat} {x:Ltr}
theorem HerF.below (h:HerF w g gd K l s hd cv rc F Fd pt px x W) (hb:Below W.heap.size W W') :HerF w g gd K l s hd cv rc F Fd pt px x W':=
 ⟨bB h.t hb,bB h.xx hb,h.sn.below hb,h.d.below hb,h.T.more hb,h.hg,h.hw,h.h1,h.h2,h.h3⟩
theorem HerF.setC (h:HerF w g gd K l s hd cv rc F Fd pt px x W) (c2:Nat) :HerF w g gd K l s hd c2 rc F Fd pt px x (W.setCell ⟨g,9,none⟩ (.int .u64 c2)):=by
 have a0:=h.hw;have a1:=h.h1;have a2:=h.h2;have ot: ∀q,q≠g→(W.setCell ⟨g,9,none⟩ (.int .u64 c2)).heap[q]? =W.heap[q]? :=fun q hq=>Below.heap_setCell _ _ _ _ hq;exact⟨(ot _ (by omega)).trans h.t,(ot _ (by omega)).trans h.xx,zH (i:=9) h.sn _,h.d.keep fun b hb=>ot b (by have:=h.h3 b hb;omega),h.T.setCell (p:=⟨g,9,none⟩) (.inl h.hg) _,h.hg,h.hw,h.h1,h.h2,h.h3⟩
theorem HerF.setH (h:HerF w g gd K l s hd cv rc F Fd pt px x W) (c2:Nat) :HerF w g gd K l s c2 cv rc F Fd pt px x (W.setCell ⟨g,8,none⟩ (.int .u64 c2)):=by
 have a0:=h.hw;have a1:=h.h1;have a2:=h.h2;have ot: ∀q,q≠g→(W.setCell ⟨g,8,none⟩ (.int .u64 c2)).heap[q]? =W.heap[q]? :=fun q hq=>Below.heap_setCell _ _ _ _ hq;exact⟨(ot _ (by omega)).trans h.t,(ot _ (by omega)).trans h.xx,zH (i:=8) h.sn _,h.d.keep fun b hb=>ot b (by have:=h.h3 b hb;omega),h.T.setCell (p:=⟨g,8,none⟩) (.inl h.hg) _,h.hg,h.hw,h.h1,h.h2,h.h3⟩
end
theorem sensor_Hear (w:World) (g K l:Nat) (s:Sen) (r:List Nd) (F:Nat→Prop) (text:List UInt8) (h:SensAt w g K l s r F) (ho:SenOk s) (hL:lightOf l r s.k=true) (hn:r.length≤33554430) (hs:text.length≤8000000) (h2:s.heard<2^64) (h3:s.cover<2^64) (h4: (decL text).1.c<2^64) :
 Calls Tryz.prog 13 #[.pointer (some ⟨g,0,none⟩),.string ⟨text.toArray⟩] w fun e w'=>e=.returned (.int .i64 (hearE l s r text))∧∃s' r',SensTo w g K l s' r' F w'∧HearTo l s r text s' r':=by
 have HDc:=LH (fun W=>letter_Decode W text hs);have hbl:=decL_len text;have hkids:=ho.kids;have hgw:=h.lt;have HgF:=LH h.own;have HHT:Hid (∀s' r',((hearE l s r text≠0∧s'=s∧r'=r)∨(hearE l s r text=0∧s'=heardS s (decL text).1∧Joined l s.k r (readW (decL text).1.b).1.2.2.2 r'))→HearTo l s r text s' r'):=LH fun _ _ h=>h;obtain⟨e3,he3⟩ : ∃e,e=hearE l s r text:=⟨_,rfl⟩;rw [←he3] at HHT⊢;unfold hearE at he3;unfold ltrV at HDc;generalize decL text=D at HDc hbl h4 HHT he3;obtain⟨x,e1⟩:=D;dsimp only at HDc hbl h4 HHT he3;have hxb:x.b.length≤8000000:=by omega
 obtain⟨M,hM⟩ : ∃M,M=readW x.b:=⟨_,rfl⟩;obtain⟨e2,he2⟩ : ∃e,e=if e1≠0 then e1 else refusedE s x:=⟨_,rfl⟩;have hE3:e3=if e2≠0 then e2 else moreE l s.k r M:=by rw [he3,he2,hM];split <;> simp_all
 have H3:=LH hE3;have H2:=LH he2;have HLt:=LH hL;have S00:=LH h;rw [←hM] at HHT;have HMx:=LH hM;clear he3 hbl hs hE3 he2 h ho hM hL;have b0:Hid (Below w.heap.size w (w.alloc (.cells #[.pointer (some ⟨g,0,none⟩)] 30))):=LH bE;have t0:=LH (heap_alloc_new w (.cells #[.pointer (some ⟨g,0,none⟩)] 30));have s0:=LH (S00.out.below b0.out);obtain⟨pt,hpt⟩ : ∃q,q=w.heap.size:=⟨_,rfl⟩
 go_enter Tryz.func13,Tryz.ntmps13
 go_upto_region 1 with fail;have hptd:Hid (w.heap.size≤pt):=LH (Nat.le_of_eq hpt.symm);rw [←hpt] at t0⊢;clear hpt;generalize w.alloc (.cells #[.pointer (some ⟨g,0,none⟩)] 30) =W0 at t0 b0 s0⊢;have ct:=bC t0.out;have zt:=lB t0.out;go_wp2_with fail;refine(HDc.out W0).mono ?_;rintro en w1 ⟨rfl,hb1⟩;clear ct zt;obtain⟨wa,hwa⟩ : ∃W,W=w1.alloc (.cells #[.int .i64 x.e,.int .i64 x.f,.int .u64 x.c,.string ⟨x.b.toArray⟩] 108):=⟨_,rfl⟩;have sza:wa.heap.size=w1.heap.size+1:=by rw [hwa];first|rfl|exact Array.size_push _
 have xa:wa.heap[w1.heap.size]? =some (.cells #[.int .i64 x.e,.int .i64 x.f,.int .u64 x.c,.string ⟨x.b.toArray⟩] 108 (0,0)):=by rw [hwa];exact heap_alloc_new w1 _
 have ba:Below w1.heap.size w1 wa:=by rw [hwa];exact(Below.refl w1.heap.size w1).alloc (Nat.le_refl _) _
 have al1:=(Below.refl wa.heap.size wa).alloc (Nat.le_refl _) (.cells #[.int .i64 e1] 53);have aa:=hb1.trans ((ba.trans (al1.mono ba.size)).mono hb1.size);have x2:=LH (bB xa al1);have e2b:=LH (heap_alloc_new wa (.cells #[.int .i64 e1] 53));have t2:=LH (bB t0.out aa);have s2:=LH (s0.out.below aa);have b2:=LH (Below.then_ b0.out aa);have hp2:pt<w1.heap.size:=by have h1:=lB t0.out;have h2:=hb1.size;omega
 go_upto_region 4 with fail;rw [←hwa,←sza];obtain⟨px,hpx⟩ : ∃q,q=w1.heap.size:=⟨_,rfl⟩;obtain⟨pe,hpe⟩ : ∃q,q=wa.heap.size:=⟨_,rfl⟩;have hxe:Hid (pt<px∧px<pe):=LH (by omega);rw [←hpe] at e2b⊢;rw [←hpx] at x2⊢;generalize wa.alloc (.cells #[.int .i64 e1] 53) =w2 at x2 e2b t2 s2 b2⊢;clear aa al1 ba xa sza hwa hb1 t0 s0 b0 HDc hp2 hpx hpe w1 wa;have al:=(Below.refl w2.heap.size w2).alloc (Nat.le_refl _) (.cells #[.pointer none] 70);have d3:=LH (heap_alloc_new w2 (.cells #[.pointer none] 70));have hed:Hid (pe<w2.heap.size):=LH (lB e2b.out);have x3:=LH (bB x2.out al);have e3b:=LH (bB e2b.out al);have t3:=LH (bB t2.out al);have s3:=LH (s2.out.below al);have b3:=LH (Below.then_ b2.out al);clear x2 e2b t2 s2 b2 al;go_upto_region 5 with fail;obtain⟨pd,hpd⟩ : ∃q,q=w2.heap.size:=⟨_,rfl⟩;rw [←hpd] at d3 hed⊢;generalize w2.alloc (.cells #[.pointer none] 70) =w3 at x3 e3b t3 s3 b3 d3⊢;clear hpd;have R0:Hid (HerS w g K l s r F pt px pe pd x e1 none w3):=LH ⟨t3.out,x3.out,e3b.out,d3.out,s3.out,hgw,b3.out,hptd.out,hxe.out.1,hxe.out.2,hed.out⟩;clear x3 e3b t3 s3 b3 d3 w2;have al:=(Below.refl w3.heap.size w3).alloc (Nat.le_refl _) (.cells #[Value.func (.func 57) #[] #[.pointer (some ⟨pt,0,none⟩),.pointer (some ⟨px,0,none⟩),.pointer (some ⟨pe,0,none⟩)],Value.func (.func 59) #[] #[.pointer (some ⟨pt,0,none⟩),.pointer (some ⟨px,0,none⟩),.pointer (some ⟨pd,0,none⟩),.pointer (some ⟨pe,0,none⟩)]] 114);have f4:=LH (heap_alloc_new w3 (.cells #[Value.func (.func 57) #[] #[.pointer (some ⟨pt,0,none⟩),.pointer (some ⟨px,0,none⟩),.pointer (some ⟨pe,0,none⟩)],Value.func (.func 59) #[] #[.pointer (some ⟨pt,0,none⟩),.pointer (some ⟨px,0,none⟩),.pointer (some ⟨pd,0,none⟩),.pointer (some ⟨pe,0,none⟩)]] 114));have R1:=LH (R0.out.below al);clear al R0;go_upto_region 6 with fail;generalize w3.heap.size=pf at f4⊢;generalize w3.alloc (.cells #[Value.func (.func 57) #[] #[.pointer (some ⟨pt,0,none⟩),.pointer (some ⟨px,0,none⟩),.pointer (some ⟨pe,0,none⟩)],Value.func (.func 59) #[] #[.pointer (some ⟨pt,0,none⟩),.pointer (some ⟨px,0,none⟩),.pointer (some ⟨pd,0,none⟩),.pointer (some ⟨pe,0,none⟩)]] 114) =w4 at R1 f4⊢;have cf:=bC f4.out;have zf:=lB f4.out;go_upto_region 7 with fail;clear cf zf f4;have hx0: ∀w:World,(Instr.index 114 (.agg #[Value.func (.func 57) #[] #[.pointer (some ⟨pt,0,none⟩),.pointer (some ⟨px,0,none⟩),.pointer (some ⟨pe,0,none⟩)],Value.func (.func 59) #[] #[.pointer (some ⟨pt,0,none⟩),.pointer (some ⟨px,0,none⟩),.pointer (some ⟨pd,0,none⟩),.pointer (some ⟨pe,0,none⟩)]]) (.int .i64 0)).run Tryz.prog w=.ok (Value.func (.func 57) #[] #[.pointer (some ⟨pt,0,none⟩),.pointer (some ⟨px,0,none⟩),.pointer (some ⟨pe,0,none⟩)]) w:=fun _=>by kernel_rfl
 have hx1: ∀w:World,(Instr.index 114 (.agg #[Value.func (.func 57) #[] #[.pointer (some ⟨pt,0,none⟩),.pointer (some ⟨px,0,none⟩),.pointer (some ⟨pe,0,none⟩)],Value.func (.func 59) #[] #[.pointer (some ⟨pt,0,none⟩),.pointer (some ⟨px,0,none⟩),.pointer (some ⟨pd,0,none⟩),.pointer (some ⟨pe,0,none⟩)]]) (.int .i64 1)).run Tryz.prog w=.ok (Value.func (.func 59) #[] #[.pointer (some ⟨pt,0,none⟩),.pointer (some ⟨px,0,none⟩),.pointer (some ⟨pd,0,none⟩),.pointer (some ⟨pe,0,none⟩)]) w:=fun _=>by kernel_rfl
 go_loopw [22] (fun i wr=>∃q:Nat,i=.int .i64 q∧q≤2∧HerR w g K l s r F pt px pe pd x M.1.2.2.2 e1 e2 e3 q wr) (fun i _=>2 - (intOf i).toNat)
 case atStart=>exact⟨0,rfl,by omega,.inl ⟨rfl,R1.out⟩⟩
 case round=>
  clear R1;obtain⟨q,rfl,hq,hR⟩:=hrel
  match q,hq,hR with
  |0,_,hR=>
   rcases hR with ⟨_,hR⟩ | ⟨h,_⟩ | ⟨h,_⟩
   case inr.inl=>exact absurd h (by decide)
   case inr.inr=>exact absurd h (by decide)
   have R:=LH hR;have ce:=bC R.out.e;have ze:=lB R.out.e;clear hR;by_cases z:e1=0
   case pos=>
    have zi: (e1 == 0) =true:=by simpa using z
    have Z:=LH z;clear z;obtain⟨dg,F0,_,hS,_⟩:=R.out.sen;have HC:=LH (sensor_Hear1 _ pt px pe g dg s x e1 R.out.t R.out.x R.out.e hS hkids h2 h3 h4);have HE:Hid (refusedE s x=e2):=LH (by rw [H2.out,Z.out];rfl);rw [HE.out] at HC;clear hS;go_wp2_with fail;refine HC.out.mono ?_;rintro en w' ⟨rfl,W1,hb,rfl⟩;have R':=LH ((R.out.below hb).setE e2);generalize W1.setCell ⟨pe,0,none⟩ (.int .i64 e2) =W2 at R'⊢;clear hb R HC ce ze;go_wp2_with fail;go_roundw
    case rel=>exact⟨1,by go_num,by omega,.inr (.inl ⟨rfl,R'.out⟩)⟩
    case measure=>simp [intOf]
   case neg=>
    have zi: (e1 == 0) =false:=by simpa using z
    have HE:Hid (e1=e2):=LH (by rw [H2.out,if_pos z]);clear z;go_wp2_with fail;go_roundw
    case rel=>exact⟨1,by go_num,by omega,.inr (.inl ⟨rfl,by rw [←HE.out];exact R.out⟩)⟩
    case measure=>simp [intOf]
  |1,_,hR=>
   rcases hR with ⟨h,_⟩ | ⟨_,hR⟩ | ⟨h,_⟩
   case inl=>exact absurd h (by decide)
   case inr.inr=>exact absurd h (by decide)
   have R:=LH hR;have ce:=bC R.out.e;have ze:=lB R.out.e;clear hR;by_cases z:e2=0
   case pos=>
    have zi: (e2 == 0) =true:=by simpa using z
    have Z:=LH z;clear z;have HC:=LH (sensor_Hear2 _ pt px pd pe g K l s r F x none e2 R.out.t R.out.x R.out.d R.out.e (by have:=R.out.h3;omega) R.out.sen HLt.out hn hxb);unfold Hear2Post at HC;have HE:Hid (moreE l s.k r (readW x.b) =e3):=LH (by rw [H3.out,Z.out,HMx.out];rfl);rw [HE.out,←HMx.out] at HC;go_wp2_with fail;refine HC.out.mono ?_;rintro en w' ⟨rfl,⟨hm,W1,hb,rfl⟩ | ⟨hm,W1,gd,Fd,rc,hD,hF,hJ,hb,rfl⟩⟩
    ·have R':=LH (((R.out.below hb).setD none).setE e3)
     have HM0:=LH hm;generalize (W1.setCell ⟨pd,0,none⟩ (.pointer none)).setCell ⟨pe,0,none⟩ (.int .i64 e3) =W2 at R'⊢;clear hb R HC ce ze hm;go_wp2_with fail;go_roundw
     case rel=>exact⟨2,by go_num,by omega,.inr (.inr ⟨rfl,none,R'.out,fun h=>absurd h HM0.out⟩)⟩
     case measure=>simp [intOf]
    ·have HM0:=LH hm
     have R':=LH (((R.out.below hb).setD (some ⟨gd,0,none⟩)).setE 0);have hd4:=lB R.out.d;have o3:=R.out.h3;have o2:=R.out.h2;have o1:=R.out.h1;have oB:=R.out.b.size
     have HD':Hid (HerD w K l s.k r M.1.2.2.2 pt px pe pd (some ⟨gd,0,none⟩) ((W1.setCell ⟨pd,0,none⟩ (.pointer (some ⟨gd,0,none⟩))).setCell ⟨pe,0,none⟩ (.int .i64 0))):=LH
      ⟨gd,Fd,rc,rfl,hD.keep (fun b hb'=>by have:=hF b hb';exact(Below.heap_setCell _ _ _ _ (by show b≠pe;omega)).trans (Below.heap_setCell _ _ _ _ (by show b≠pd;omega))),fun b hb'=>by have:=hF b hb';omega,hJ⟩
     generalize (W1.setCell ⟨pd,0,none⟩ (.pointer (some ⟨gd,0,none⟩))).setCell ⟨pe,0,none⟩ (.int .i64 0) =W2 at R' HD'⊢;clear hb R HC ce ze hm hD hF hJ hd4 o3 o2 o1 oB;go_wp2_with fail;go_roundw
     case rel=>exact⟨2,by go_num,by omega,.inr (.inr ⟨rfl,some ⟨gd,0,none⟩,by rw [HM0.out];exact R'.out,fun _=>HD'.out⟩)⟩
     case measure=>simp [intOf]
   case neg=>
    have zi: (e2 == 0) =false:=by simpa using z
    have HE:Hid (e2=e3):=LH (by rw [H3.out,if_pos z]);have Z:=LH z;clear z;go_wp2_with fail;go_roundw
    case rel=>exact⟨2,by go_num,by omega,.inr (.inr ⟨rfl,none,by rw [←HE.out];exact R.out,fun h=>absurd (HE.out.trans h) Z.out⟩)⟩
    case measure=>simp [intOf]
  |2,_,hR=>
   rcases hR with ⟨h,_⟩ | ⟨h,_⟩ | ⟨_,V,hR,hD⟩
   case inl=>exact absurd h (by decide)
   case inr.inl=>exact absurd h (by decide)
   have R:=LH hR;have HD:=LH hD;clear hR hD;have ce:=bC R.out.e;have ze:=lB R.out.e;by_cases z:e3=0
   case neg=>
    have zi: (e3 == 0) =false:=by simpa using z
    have Z:=LH z;clear z;go_wp2_with fail;exact bR (v:=.int .i64 e3) (by simp only [results,Tryz.results13];go_simp) rfl ⟨rfl,s,r,⟨F,R.out.sen,.of_below R.out.b,Grow.refl⟩,HHT.out _ _ (.inl ⟨Z.out,rfl,rfl⟩)⟩
   have zi: (e3 == 0) =true:=by simpa using z
   have Z:=LH z;clear z;go_upto_region 14 with fail;obtain⟨gd,Fd,rc,rfl,hD,hFd,hJ⟩:=HD.out Z.out;have HJ:=LH hJ;have HFd:=LH hFd;have DG:=LH hD;have cd:=bC R.out.d;have zd:=lB R.out.d;have ct:=bC R.out.t;have zt:=lB R.out.t;obtain⟨dg,F0,hF,hS,hl,hk,hD0,hng⟩:=R.out.sen;have HL2:=LH hl;have HK2:=LH hk;have S0:=LH hS;have cg:=bC hS;have fg:=bF hS;have zg:=lB hS;clear hD hFd hJ HD hF hS hl hk hD0 hng;go_upto_region 15 with fail;have ot: ∀q,q≠g→(wr.setCell ⟨g,11,none⟩ (.pointer (some ⟨gd,0,none⟩))).heap[q]? =wr.heap[q]? :=fun q hq=>Below.heap_setCell _ _ _ _ hq
   have H15:Hid (HerF w g gd K l s s.heard s.cover rc F Fd pt px x (wr.setCell ⟨g,11,none⟩ (.pointer (some ⟨gd,0,none⟩)))):=LH (by
    have a0:=R.out.h0;have a1:=R.out.h1;have hgw':=hgw g HgF.out;exact⟨(ot _ (by omega)).trans R.out.t,(ot _ (by omega)).trans R.out.x,zH (i:=11) S0.out _,DG.out.keep fun b hb=>ot b (by have:=(HFd.out b hb).1;omega),(Turn.of_below R.out.b).setCell (p:=⟨g,11,none⟩) (.inl HgF.out) _,HgF.out,hgw',a0,by omega,fun b hb=>(HFd.out b hb).1⟩)
   generalize wr.setCell ⟨g,11,none⟩ (.pointer (some ⟨gd,0,none⟩)) =w5 at H15⊢;clear ot cg fg zg ct zt cd zd ce ze S0 DG HFd R zi;replace H15:=LH (H15.out.below (W':=w5.drew) ((Below.refl _ _).drew));refine wp_region_noPanic ?_;refine wp_region_N (fun W=>HerF w g gd K l s s.heard s.cover rc F Fd pt px x W) [11] (by kernel_rfl) (H15.out) (fun hHeld=> ?_);generalize w5.drew=w6 at H15 hHeld⊢;clear hHeld;refine nT 0 (Value.pointer (some ⟨g,0,none⟩)) (y:=Or.inl ⟨by rfl,fun W hW=>by have q1:=bC hW.t;have q2:=lB hW.t;have q3:=bC hW.sn;have q4:=lB hW.sn;have q5:=bC hW.xx;have q6:=lB hW.xx;go_simp⟩) (s:=H15.out) (h:= ?_)
   (try simp only [zA,zB,zC,Act.put,zD,zE,zF])
   refine nT 1 (Value.pointer (some ⟨g,0,none⟩)) (y:=Or.inl ⟨by rfl,fun W hW=>by have q1:=bC hW.t;have q2:=lB hW.t;have q3:=bC hW.sn;have q4:=lB hW.sn;have q5:=bC hW.xx;have q6:=lB hW.xx;go_simp⟩) (s:=H15.out) (h:= ?_)
   (try simp only [zA,zB,zC,Act.put,zD,zE,zF])
   refine nP 2 (Value.pointer (some ⟨g,0,none⟩)) (h:= ?_)
   (try simp only [zA,zB,zC,Act.put,zD,zE,zF])
   refine nP 3 (Value.pointer (some ⟨g,9,none⟩)) (h:= ?_)
   (try simp only [zA,zB,zC,Act.put,zD,zE,zF])
   refine nT 4 (Value.int .u64 s.cover) (y:=Or.inl ⟨by rfl,fun W hW=>by have q1:=bC hW.t;have q2:=lB hW.t;have q3:=bC hW.sn;have q4:=lB hW.sn;have q5:=bC hW.xx;have q6:=lB hW.xx;go_simp⟩) (s:=H15.out) (h:= ?_)
   (try simp only [zA,zB,zC,Act.put,zD,zE,zF])
   refine nP 5 (Value.pointer (some ⟨px,2,none⟩)) (h:= ?_)
   (try simp only [zA,zB,zC,Act.put,zD,zE,zF])
   refine nT 6 (Value.int .u64 x.c) (y:=Or.inl ⟨by rfl,fun W hW=>by have q1:=bC hW.t;have q2:=lB hW.t;have q3:=bC hW.sn;have q4:=lB hW.sn;have q5:=bC hW.xx;have q6:=lB hW.xx;go_simp⟩) (s:=H15.out) (h:= ?_)
   (try simp only [zA,zB,zC,Act.put,zD,zE,zF])
   refine nO (i:=7) (by kernel_rfl) rfl (fun K hK=> ?_);go_simp;have OL:Hid (Own (w6.alloc (.cells #[.int .u64 s.cover,.int .u64 x.c] 59)) w6.heap.size 59 encU (.slice (some ⟨w6.heap.size,0,none⟩) 2 2) [s.cover,x.c]):=LH (Own.lit w6 encU [s.cover,x.c] 59 (Nat.le_refl _) (by simp [maxLen]));have H16:=LH (H15.out.below ((Below.refl w6.heap.size w6).alloc (Nat.le_refl _) (.cells #[.int .u64 s.cover,.int .u64 x.c] 59)));refine hK.out _ _ (fun _ _=>H16.out) ?_;clear hK K H15
   (try simp only [zA,zB,zC,Act.put,zD,zE,zF])
   generalize w6.alloc (.cells #[.int .u64 s.cover,.int .u64 x.c] 59) =w7 at H16 OL⊢;refine nO (i:=8) (by kernel_rfl) rfl (fun K hK=> ?_);go_simp;refine(crew_Union2 w7 _ _ s.cover x.c OL.out h3 h4).mono ?_;rintro e w8 ⟨rfl,hb⟩;have H17:=LH (H16.out.below hb);clear hb;refine hK.out _ _ (fun _ _=>H17.out) ?_;clear hK K
   (try simp only [zA,zB,zC,Act.put,zD,zE,zF])
   refine nP 9 (Value.pointer (some ⟨g,0,none⟩)) (h:= ?_)
   (try simp only [zA,zB,zC,Act.put,zD,zE,zF])
   refine nP 10 (Value.pointer (some ⟨g,9,none⟩)) (h:= ?_)
   (try simp only [zA,zB,zC,Act.put,zD,zE,zF])
   have q3:=bC H17.out.sn;have q5:=bF H17.out.sn;have q4:=lB H17.out.sn;refine nO (i:=11) (by kernel_rfl) rfl (fun K hK=> ?_);go_simp;refine hK.out _ _ (fun h _=>absurd (List.mem_singleton.2 rfl) h) ?_;clear hK K q3 q4 q5
   (try simp only [zA,zB,zC,Act.put,zD,zE,zF])
   refine nD (by kernel_rfl) ?_ _;refine NoPanic.normal ?_;have H18:=LH (H17.out.setC (s.cover ||| x.c));clear H16 H17 OL;generalize w8.setCell ⟨g,9,none⟩ (.int .u64 ((s.cover ||| x.c:Nat) :Int)) =w9 at H18⊢;go_upto_region 16 with fail;replace H18:=LH (H18.out.below (W':=w9.drew) ((Below.refl _ _).drew));refine wp_region_noPanic ?_;refine wp_region_N (fun W=>HerF w g gd K l s s.heard (s.cover ||| x.c) rc F Fd pt px x W) [10] (by kernel_rfl) (H18.out) (fun hHeld=> ?_);generalize w9.drew=w10 at H18 hHeld⊢;clear hHeld;refine nT 0 (Value.pointer (some ⟨g,0,none⟩)) (y:=Or.inl ⟨by rfl,fun W hW=>by have q1:=bC hW.t;have q2:=lB hW.t;have q3:=bC hW.sn;have q4:=lB hW.sn;have q5:=bC hW.xx;have q6:=lB hW.xx;go_simp⟩) (s:=H18.out) (h:= ?_)
   (try simp only [zA,zB,zC,Act.put,zD,zE,zF])
   refine nT 1 (Value.pointer (some ⟨g,0,none⟩)) (y:=Or.inl ⟨by rfl,fun W hW=>by have q1:=bC hW.t;have q2:=lB hW.t;have q3:=bC hW.sn;have q4:=lB hW.sn;have q5:=bC hW.xx;have q6:=lB hW.xx;go_simp⟩) (s:=H18.out) (h:= ?_)
   (try simp only [zA,zB,zC,Act.put,zD,zE,zF])
   refine nP 2 (Value.pointer (some ⟨g,0,none⟩)) (h:= ?_)
   (try simp only [zA,zB,zC,Act.put,zD,zE,zF])
   refine nP 3 (Value.pointer (some ⟨g,8,none⟩)) (h:= ?_)
   (try simp only [zA,zB,zC,Act.put,zD,zE,zF])
   refine nT 4 (Value.int .u64 s.heard) (y:=Or.inl ⟨by rfl,fun W hW=>by have q1:=bC hW.t;have q2:=lB hW.t;have q3:=bC hW.sn;have q4:=lB hW.sn;have q5:=bC hW.xx;have q6:=lB hW.xx;go_simp⟩) (s:=H18.out) (h:= ?_)
   (try simp only [zA,zB,zC,Act.put,zD,zE,zF])
   refine nP 5 (Value.pointer (some ⟨px,1,none⟩)) (h:= ?_)
   (try simp only [zA,zB,zC,Act.put,zD,zE,zF])
   refine nT 6 (Value.int .i64 x.f) (y:=Or.inl ⟨by rfl,fun W hW=>by have q1:=bC hW.t;have q2:=lB hW.t;have q3:=bC hW.sn;have q4:=lB hW.sn;have q5:=bC hW.xx;have q6:=lB hW.xx;go_simp⟩) (s:=H18.out) (h:= ?_)
   (try simp only [zA,zB,zC,Act.put,zD,zE,zF])
   refine nO (i:=7) (by kernel_rfl) rfl (fun K hK=> ?_);go_simp;refine(crew_With s.heard x.f h2 _).mono ?_;rintro e w11 ⟨rfl,hb⟩;have H19:=LH (H18.out.below hb);clear hb;refine hK.out _ _ (fun _ _=>H19.out) ?_;clear hK K
   (try simp only [zA,zB,zC,Act.put,zD,zE,zF])
   refine nP 8 (Value.pointer (some ⟨g,0,none⟩)) (h:= ?_)
   (try simp only [zA,zB,zC,Act.put,zD,zE,zF])
   refine nP 9 (Value.pointer (some ⟨g,8,none⟩)) (h:= ?_)
   (try simp only [zA,zB,zC,Act.put,zD,zE,zF])
   have q3:=bC H19.out.sn;have q5:=bF H19.out.sn;have q4:=lB H19.out.sn;refine nO (i:=10) (by kernel_rfl) rfl (fun K hK=> ?_);go_simp;refine hK.out _ _ (fun h _=>absurd (List.mem_singleton.2 rfl) h) ?_;clear hK K q3 q4 q5
   (try simp only [zA,zB,zC,Act.put,zD,zE,zF])
   refine nD (by kernel_rfl) ?_ _;refine NoPanic.normal ?_;have H20:=LH (H19.out.setH (withC s.heard x.f));clear H18 H19;generalize w11.setCell ⟨g,8,none⟩ (.int .u64 ((withC s.heard x.f:Nat) :Int)) =w12 at H20⊢;go_wp2_with fail;have hZ:=Z.out;exact bR (v:=.int .i64 0) (by simp only [results,Tryz.results13];go_simp) rfl ⟨by rw [hZ],heardS s x,rc,⟨footP g Fd,⟨gd,Fd,rfl,H20.out.sn,HL2.out,HK2.out,H20.out.d,fun hb=>by have:=H20.out.h3 g hb;have:=H20.out.hw;omega⟩,H20.out.T,fun b hb=>by rcases hb with rfl|hb;exact .inl HgF.out;exact .inr (H20.out.h3 b hb)⟩,HHT.out _ _ (.inr ⟨Z.out,rfl,HJ.out⟩)⟩
def SlF (F:Nat→Prop) (W:World) (A:Option Addr) (l:List Nd) :Prop:=
 l= []∨∃b off,A=some ⟨b,off,none⟩∧(TypeAt W b 154∧¬F b)∧∀i x,l[i]? =some x→∀j u,(encN.enc x)[j]? =some u→W.cell? ⟨b,off+i*2+j,none⟩ =some u
abbrev zoneF (F:Nat→Prop) (n:Nat) (h: ∀b,F b→b<n) :Zone:=⟨n,fun b=>¬F b,fun b hb hf=>by have:=h b hf;omega⟩
section
variable {F F':Nat→Prop} {W W':World} {A:Option Addr} {l:List Nd}
theorem SlF.nil:SlF F W A []:=.inl rfl
theorem SlF.slT (h:SlF F W A l) :SlT W 154 encN A l:=by
 rcases h with h| ⟨b,off,hA,hT,hc⟩
 ·exact .inl h
 ·exact .inr ⟨b,off,hA,hT.1,hc⟩
theorem SlF.sl (h:SlF F W A l) :Sl W W.heap.size encN A l:=h.slT.sl
theorem SlF.below (h:SlF F W A l) (hb:Below W.heap.size W W') :SlF F W' A l:=by
 rcases h with h| ⟨b,off,hA,hT,hc⟩
 ·exact .inl h
 ·exact .inr ⟨b,off,hA,⟨hT.1.below hb,hT.2⟩,fun i x hi j u hj=>(hb.cell (p:=⟨b,_,none⟩) hT.1.lt).trans (hc i x hi j u hj)⟩
theorem SlF.turn (h:SlF F W A l) (ht:Turn F W W') (hg:Grow W F F') :SlF F' W' A l:=by
 rcases h with h| ⟨b,off,hA,hT,hc⟩
 ·exact .inl h
 ·have hlt:=hT.1.lt
  have hb:=ht.block b hlt hT.2;obtain⟨⟨cs,fr,h1⟩,h2⟩:=hT;refine .inr ⟨b,off,hA,⟨⟨cs,fr,hb.trans h1⟩,fun hf=> ?_⟩,fun i x hi j u hj=>(World.cell?_of_block hb).trans (hc i x hi j u hj)⟩;rcases hg b hf with hf|hf
  ·exact h2 hf
  ·omega
end
def DoFPost (l:Nat) (s:Sen) (r:List Nd) (F:Nat→Prop) (o:OpX) (w:World) (e:Ending) (w':World) :Prop:=
 ∃(t:List UInt8) (er:Int) (s':Sen) (r':List Nd) (A':Option Addr) (c':Nat),e=.returned (.tuple #[refV s' A' r'.length c',.string ⟨t.toArray⟩,.int .i64 er])∧StepTo l s r o t er s' r'∧SlF F w' A' r'∧Below w.heap.size w w'
theorem ref31_DoF (w:World) (l:Nat) (s:Sen) (A:Option Addr) (c:Nat) (r:List Nd) (F:Nat→Prop) (o:OpX) (a:Al l s r) (hS:SlF F w A r) (hF: ∀b,F b→b<w.heap.size) (hO:Sl w w.heap.size encO o.A o.b.ops) (hn:o.b.ops.length≤50000) (hbk:o.b.k≤124) (hc:o.b.cover<2^64) :
 Calls Tryz.prog 9 #[refV s A r.length c,opV o] w (DoFPost l s r F o w):=by
 refine(@ref31_Do (zoneF F w.heap.size hF) w l s A c r o a ⟨Nat.le_refl _,hS⟩ hO hn hbk hc).mono ?_;rintro e w' ⟨t,er,s',r',A',c',h1,h2,h3,h4⟩;exact⟨t,er,s',r',A',c',h1,h2,h3.2,h4⟩
def HearFPost (l:Nat) (s:Sen) (r:List Nd) (F:Nat→Prop) (tx:List UInt8) (w:World) (e:Ending) (w':World) :Prop:=
 ∃(s':Sen) (r':List Nd) (A':Option Addr) (c':Nat),e=.returned (.tuple #[refV s' A' r'.length c',.int .i64 (hearE l s r tx)])∧HearTo l s r tx s' r'∧SlF F w' A' r'∧Below w.heap.size w w'
theorem ref31_HearF (w:World) (l:Nat) (s:Sen) (A:Option Addr) (c:Nat) (r:List Nd) (F:Nat→Prop) (tx:List UInt8) (a:Al l s r) (hS:SlF F w A r) (hF: ∀b,F b→b<w.heap.size) (ht:tx.length≤8000000) :
 Calls Tryz.prog 12 #[refV s A r.length c,.string ⟨tx.toArray⟩] w (HearFPost l s r F tx w):=by
 have hlen:=a.len;refine(@ref31_Hear (zoneF F w.heap.size hF) w l s A c r tx a.sl a.l1 a.ok ⟨Nat.le_refl _,hS⟩ a.fits a.light (by omega) a.k.1 a.k.2 ht).mono ?_;rintro e w' ⟨s',r',A',c',h1,h2,h3,h4⟩;exact⟨s',r',A',c',h1,h2,h3.2,h4⟩
structure E31 (w:World) (cs:Array Value) (o:OpX) (W:World) :Prop where
 x:W.heap[w.heap.size]? =some (.cells cs 37 (0,0))
 o:W.heap[w.heap.size+1]? =some (.cells (opC o) 44 (0,0))
 b:Below w.heap.size w W
theorem E31.first (w:World) (cs:Array Value) (o:OpX) :E31 w cs o ((w.alloc (.cells cs 37)).alloc (.cells (opC o) 44)):=by
 have a1:=(Below.refl w.heap.size w).alloc (Nat.le_refl _) (.cells cs 37);have s1: (w.alloc (.cells cs 37)).heap.size=w.heap.size+1:=by simp
 have h1: (w.alloc (.cells cs 37)).heap[w.heap.size]? =some (.cells cs 37 (0,0)):=heap_alloc_new w _;generalize w.alloc (.cells cs 37) =w1 at a1 s1 h1⊢;have a2:=(Below.refl w1.heap.size w1).alloc (Nat.le_refl _) (.cells (opC o) 44);have h2: (w1.alloc (.cells (opC o) 44)).heap[w1.heap.size]? =some (.cells (opC o) 44 (0,0)):=heap_alloc_new w1 _;rw [s1] at h2;exact⟨bB h1 a2,h2,Below.then_ a1 a2⟩
def Do31S (g K l:Nat) (s:Sen) (r:List Nd) (F:Nat→Prop) (o:OpX) (w:World) (e:Ending) (w':World) :Prop:=
 ∃(t:List UInt8) (er:Int) (s':Sen) (r':List Nd),e=.returned (.tuple #[.string ⟨t.toArray⟩,.int .i64 er])∧StepTo l s r o t er s' r'∧SensTo w g K l s' r' F w'
theorem law31_do_put (w:World) (g K l:Nat) (s:Sen) (r:List Nd) (F:Nat→Prop) (A:Option Addr) (n c:Nat) (o:OpX) (sd:Sen) (hsd:sd.ep=s.ep) (h:SensAt w g K l s r F) (a:Al l s r) (h0:o.kd=0) :
 Calls Tryz.prog 10 #[.pointer (some ⟨g,0,none⟩),refV sd A n c,opV o] w (Do31S g K l s r F o w):=by
 have hlen:=a.len;have HC:=LH (fun W h=>sensor_Put W g K l s r F h (by omega) o.x o.y);unfold SPutPost at HC;have HS:Hid (∀r',PutTo l s r o.x o.y r'→StepTo l s r o [] (putErr l s r o.x o.y) s r'):=LH fun r' h=>.inl ⟨h0,rfl,rfl,rfl,h⟩;generalize putErr l s r o.x o.y=er at HC HS;have hd0: (o.kd == 0) =true:=by rw [h0];rfl
 clear h0;have HP:Hid (∀(t:List UInt8) (er:Int) (s':Sen) (r':List Nd) (W:World),StepTo l s r o t er s' r'→SensTo w g K l s' r' F W→Do31S g K l s r F o w (.returned (.tuple #[.string ⟨t.toArray⟩,.int .i64 er])) W):=LH fun t er s' r' _ h1 h2=>⟨t,er,s',r',rfl,h1,h2⟩;have R0:=LH (E31.first w (refC sd A n c) o);have HSn:=LH h;have HEp:=LH hsd;clear a h hlen hsd;unfold opV refV;unfold refC opC at R0;unfold refC opC;generalize Do31S g K l s r F o w=PP at HP⊢
 go_enter Tryz.func10,Tryz.ntmps10
 go_upto_region 1 with fail;generalize (w.alloc (.cells #[.int .i64 sd.l,.int .i64 sd.k,.int .i64 sd.kd,.int .i64 sd.p.me,.int .i64 sd.p.wait,.int .u64 sd.p.kids,.int .i64 sd.ep,.int .i64 sd.ti,.int .u64 sd.heard,.int .u64 sd.cover,.bool sd.sent,.int .i64 sd.k,.int .i64 sd.l,.slice A n c] 37)).alloc (.cells #[.int .i64 o.kd,.int .i64 o.x,.int .i64 o.y,.int .i64 o.b.on,.int .i64 o.b.fr,.int .i64 o.b.k,.int .i64 o.b.l,.int .u64 o.b.cover,.slice o.A o.b.ops.length o.c,.int .i64 o.b.at_,.int .u8 o.b.by_.toNat] 44) =W0 at R0⊢;have S0:=LH (HSn.out.below R0.out.b);have cx:=bC R0.out.x;have zx:=lB R0.out.x;have co:=bC R0.out.o;have zo:=lB R0.out.o
 try unfold opC at co
 go_wp2_with fail;refine(HC.out W0 S0.out).mono ?_;rintro e w1 ⟨r',rfl,hp,ht⟩;have HS1:=LH (HS.out r' hp);have T1:=LH (SensTo.from_ R0.out.b ht);clear hp ht HS HC S0 HSn R0 cx zx co zo;go_wp2_with fail;exact HP.out [] er s r' _ HS1.out T1.out
theorem law31_do_next (w:World) (g K l:Nat) (s:Sen) (r:List Nd) (F:Nat→Prop) (A:Option Addr) (n c:Nat) (o:OpX) (sd:Sen) (hsd:sd.ep=s.ep) (h:SensAt w g K l s r F) (a:Al l s r) (h0:o.kd=4) :
 Calls Tryz.prog 10 #[.pointer (some ⟨g,0,none⟩),refV sd A n c,opV o] w (Do31S g K l s r F o w):=by
 have hlen:=a.len;have HC:=LH (fun W h=>sensor_Next W g K l s r F h a.ok);unfold NextTo at HC;have HS:Hid (StepTo l s r o [] (nextE s) (nextS s) (nextR s r)):=LH (.inr (.inr (.inr (.inl ⟨h0,rfl,rfl,rfl,rfl⟩))));unfold nextE nextS nextR at HS;have hd0: (o.kd == 0) =false:=by rw [h0];rfl
 have hd1: (o.kd == 1) =false:=by rw [h0];rfl
 have hd3: (o.kd == 3) =false:=by rw [h0];rfl
 have hd4: (o.kd == 4) =true:=by rw [h0];rfl
 clear h0;have HP:Hid (∀(t:List UInt8) (er:Int) (s':Sen) (r':List Nd) (W:World),StepTo l s r o t er s' r'→SensTo w g K l s' r' F W→Do31S g K l s r F o w (.returned (.tuple #[.string ⟨t.toArray⟩,.int .i64 er])) W):=LH fun t er s' r' _ h1 h2=>⟨t,er,s',r',rfl,h1,h2⟩;have R0:=LH (E31.first w (refC sd A n c) o);have HSn:=LH h;have HEp:=LH hsd;clear a h hlen hsd;unfold opV refV;unfold refC opC at R0;unfold refC opC;generalize Do31S g K l s r F o w=PP at HP⊢
 go_enter Tryz.func10,Tryz.ntmps10
 go_upto_region 1 with fail;generalize (w.alloc (.cells #[.int .i64 sd.l,.int .i64 sd.k,.int .i64 sd.kd,.int .i64 sd.p.me,.int .i64 sd.p.wait,.int .u64 sd.p.kids,.int .i64 sd.ep,.int .i64 sd.ti,.int .u64 sd.heard,.int .u64 sd.cover,.bool sd.sent,.int .i64 sd.k,.int .i64 sd.l,.slice A n c] 37)).alloc (.cells #[.int .i64 o.kd,.int .i64 o.x,.int .i64 o.y,.int .i64 o.b.on,.int .i64 o.b.fr,.int .i64 o.b.k,.int .i64 o.b.l,.int .u64 o.b.cover,.slice o.A o.b.ops.length o.c,.int .i64 o.b.at_,.int .u8 o.b.by_.toNat] 44) =W0 at R0⊢;have S0:=LH (HSn.out.below R0.out.b);have cx:=bC R0.out.x;have zx:=lB R0.out.x;have co:=bC R0.out.o;have zo:=lB R0.out.o
 try unfold opC at co
 go_wp2_with fail;refine(HC.out W0 S0.out).mono ?_;rintro e w1 (⟨he,rfl,hb⟩ | ⟨he,rfl,ht⟩)
 ·rw [if_pos he,if_pos he,if_pos he] at HS
  have T1:=LH (SensTo.from_ R0.out.b (SensTo.below S0.out hb));clear he hb HC S0 HSn R0 cx zx co zo;go_wp2_with fail;exact HP.out [] 21 s r _ HS.out T1.out
 ·rw [if_neg he,if_neg he,if_neg he] at HS
  have T1:=LH (SensTo.from_ R0.out.b ht);clear he ht HC S0 HSn R0 cx zx co zo;go_wp2_with fail;exact HP.out [] 0 _ [] _ HS.out T1.out
theorem law31_do_tick (w:World) (g K l:Nat) (s:Sen) (r:List Nd) (F:Nat→Prop) (A:Option Addr) (n c:Nat) (o:OpX) (sd:Sen) (hsd:sd.ep=s.ep) (h:SensAt w g K l s r F) (a:Al l s r) (h0:o.kd≠0) (h1:o.kd≠1) (h3:o.kd≠3) (h4:o.kd≠4) :
 Calls Tryz.prog 10 #[.pointer (some ⟨g,0,none⟩),refV sd A n c,opV o] w (Do31S g K l s r F o w):=by
 have hlen:=a.len;have hw:=a.ok.wait.1;have ht0:=a.ok.t0;have ht1:=a.ok.t1;have HC:=LH (fun W h=>sensor_Tick W g K l s r F h (by omega) a.ok.t0);have HS:Hid (StepTo l s r o [] 0 (tickedS s) r):=LH (.inr (.inr (.inr (.inr ⟨⟨h0,h1,h3,h4⟩,rfl,rfl,rfl,rfl⟩))));generalize tickedS s=sn at HC HS;have hd0: (o.kd == 0) =false:=by simpa using h0
 have hd1: (o.kd == 1) =false:=by simpa using h1
 have hd3: (o.kd == 3) =false:=by simpa using h3
 have hd4: (o.kd == 4) =false:=by simpa using h4
 clear h0 h1 h3 h4 hw ht0 ht1;have HP:Hid (∀(t:List UInt8) (er:Int) (s':Sen) (r':List Nd) (W:World),StepTo l s r o t er s' r'→SensTo w g K l s' r' F W→Do31S g K l s r F o w (.returned (.tuple #[.string ⟨t.toArray⟩,.int .i64 er])) W):=LH fun t er s' r' _ h1 h2=>⟨t,er,s',r',rfl,h1,h2⟩;have R0:=LH (E31.first w (refC sd A n c) o);have HSn:=LH h;have HEp:=LH hsd;clear a h hlen hsd;unfold opV refV;unfold refC opC at R0;unfold refC opC;generalize Do31S g K l s r F o w=PP at HP⊢
 go_enter Tryz.func10,Tryz.ntmps10
 go_upto_region 1 with fail;generalize (w.alloc (.cells #[.int .i64 sd.l,.int .i64 sd.k,.int .i64 sd.kd,.int .i64 sd.p.me,.int .i64 sd.p.wait,.int .u64 sd.p.kids,.int .i64 sd.ep,.int .i64 sd.ti,.int .u64 sd.heard,.int .u64 sd.cover,.bool sd.sent,.int .i64 sd.k,.int .i64 sd.l,.slice A n c] 37)).alloc (.cells #[.int .i64 o.kd,.int .i64 o.x,.int .i64 o.y,.int .i64 o.b.on,.int .i64 o.b.fr,.int .i64 o.b.k,.int .i64 o.b.l,.int .u64 o.b.cover,.slice o.A o.b.ops.length o.c,.int .i64 o.b.at_,.int .u8 o.b.by_.toNat] 44) =W0 at R0⊢;have S0:=LH (HSn.out.below R0.out.b);have cx:=bC R0.out.x;have zx:=lB R0.out.x;have co:=bC R0.out.o;have zo:=lB R0.out.o
 try unfold opC at co
 go_wp2_with fail;refine(HC.out W0 S0.out).mono ?_;rintro e w1 ⟨rfl,ht⟩;have T1:=LH (SensTo.from_ R0.out.b ht);clear ht HC S0 HSn R0 cx zx co zo;go_wp2_with fail;exact HP.out [] 0 sn r _ HS.out T1.out
theorem law31_do_send (w:World) (g K l:Nat) (s:Sen) (r:List Nd) (F:Nat→Prop) (A:Option Addr) (n c:Nat) (o:OpX) (sd:Sen) (hsd:sd.ep=s.ep) (h:SensAt w g K l s r F) (a:Al l s r) (h0:o.kd=3) :
 Calls Tryz.prog 10 #[.pointer (some ⟨g,0,none⟩),refV sd A n c,opV o] w (Do31S g K l s r F o w):=by
 have hlen:=a.len;have HC:=LH (fun W h=>sensor_Send W g K l s r F h a.ok (by omega));unfold SendPost at HC;have HS:Hid (∀t e s' r',SendTo l s r t e s' r'→StepTo l s r o t e s' r'):=LH fun _ _ _ _ h=>.inr (.inr (.inl ⟨h0,h⟩));have hd0: (o.kd == 0) =false:=by rw [h0];rfl
 have hd1: (o.kd == 1) =false:=by rw [h0];rfl
 have hd3: (o.kd == 3) =true:=by rw [h0];rfl
 clear h0;have HP:Hid (∀(t:List UInt8) (er:Int) (s':Sen) (r':List Nd) (W:World),StepTo l s r o t er s' r'→SensTo w g K l s' r' F W→Do31S g K l s r F o w (.returned (.tuple #[.string ⟨t.toArray⟩,.int .i64 er])) W):=LH fun t er s' r' _ h1 h2=>⟨t,er,s',r',rfl,h1,h2⟩;have R0:=LH (E31.first w (refC sd A n c) o);have HSn:=LH h;have HEp:=LH hsd;clear a h hlen hsd;unfold opV refV;unfold refC opC at R0;unfold refC opC;generalize Do31S g K l s r F o w=PP at HP⊢
 go_enter Tryz.func10,Tryz.ntmps10
 go_upto_region 1 with fail;generalize (w.alloc (.cells #[.int .i64 sd.l,.int .i64 sd.k,.int .i64 sd.kd,.int .i64 sd.p.me,.int .i64 sd.p.wait,.int .u64 sd.p.kids,.int .i64 sd.ep,.int .i64 sd.ti,.int .u64 sd.heard,.int .u64 sd.cover,.bool sd.sent,.int .i64 sd.k,.int .i64 sd.l,.slice A n c] 37)).alloc (.cells #[.int .i64 o.kd,.int .i64 o.x,.int .i64 o.y,.int .i64 o.b.on,.int .i64 o.b.fr,.int .i64 o.b.k,.int .i64 o.b.l,.int .u64 o.b.cover,.slice o.A o.b.ops.length o.c,.int .i64 o.b.at_,.int .u8 o.b.by_.toNat] 44) =W0 at R0⊢;have S0:=LH (HSn.out.below R0.out.b);have cx:=bC R0.out.x;have zx:=lB R0.out.x;have co:=bC R0.out.o;have zo:=lB R0.out.o
 try unfold opC at co
 go_wp2_with fail;refine(HC.out W0 S0.out).mono ?_;intro e w1 hc;by_cases hs:s.sent=true
 ·rw [if_pos hs] at hc
  obtain⟨rfl,hb⟩:=hc;have T1:=LH (SensTo.from_ R0.out.b (SensTo.below S0.out hb));have HS1:=LH (HS.out [] 18 s r (.inl ⟨hs,rfl,rfl,rfl,rfl⟩));clear hs hb HC HS S0 HSn R0 cx zx co zo;go_wp2_with fail;exact HP.out [] 18 s r _ HS1.out T1.out
 ·rw [if_neg hs] at hc
  have hs':s.sent=false:=by simpa using hs
  by_cases hr:readyS s=false
  ·rw [if_pos hr] at hc
   obtain⟨rfl,hb⟩:=hc;have T1:=LH (SensTo.from_ R0.out.b (SensTo.below S0.out hb));have HS1:=LH (HS.out [] 22 s r (.inr (.inl ⟨hs',hr,rfl,rfl,rfl,rfl⟩)));clear hs hs' hr hb HC HS S0 HSn R0 cx zx co zo;go_wp2_with fail;exact HP.out [] 22 s r _ HS1.out T1.out
  ·rw [if_neg hr] at hc
   obtain⟨ps,r',hR,rfl,ht⟩:=hc;have T1:=LH (SensTo.from_ R0.out.b ht);have HS1:=LH (HS.out (ltrT (senL l s r')) 0 (sentS s) r' (.inr (.inr ⟨hs',by simpa using hr,ps,hR,rfl,rfl,rfl⟩)));clear hs hs' hr hR ht HC HS S0 HSn R0 cx zx co zo;generalize ltrT (senL l s r') =tx at HS1⊢;go_wp2_with fail;exact HP.out tx 0 (sentS s) r' _ HS1.out T1.out
theorem law31_do_hear (w:World) (g K l:Nat) (s:Sen) (r:List Nd) (F:Nat→Prop) (A:Option Addr) (n c:Nat) (o:OpX) (sd:Sen) (hsd:sd.ep=s.ep) (h:SensAt w g K l s r F) (a:Al l s r) (h0:o.kd=1) (hO:Sl w w.heap.size encO o.A o.b.ops) (hn:o.b.ops.length≤50000) (hbk:o.b.k≤124) (hc:o.b.cover<2^64) :
 Calls Tryz.prog 10 #[.pointer (some ⟨g,0,none⟩),refV sd A n c,opV o] w (Do31S g K l s r F o w):=by
 have hlen:=a.len;have HT:=LH (fun W h=>ref31_Text W sd A n c o.b o.A o.c h hn (fun _=>hbk) hc);unfold noteV at HT;unfold refV refC at HT;have HH:=LH (fun W tx h ht=>sensor_Hear W g K l s r F tx h a.ok a.light (by omega) ht (right_lt a.ok.h) (right_lt a.ok.c) (decL_crew tx));have HS:Hid (∀tx s' r',TextTo s.ep o.b tx→HearTo l s r tx s' r'→StepTo l s r o [] (hearE l s r tx) s' r'):=LH fun tx s' r' h1 h2=>.inr (.inl ⟨h0,rfl,tx,h1,rfl,h2⟩);have hd0: (o.kd == 0) =false:=by rw [h0];rfl
 have hd1: (o.kd == 1) =true:=by rw [h0];rfl
 have O0:Hid (Sl ((w.alloc (.cells (refC sd A n c) 37)).alloc (.cells (opC o) 44)) w.heap.size encO o.A o.b.ops):=LH (hO.below (E31.first w (refC sd A n c) o).b);clear h0 hO hn hbk hc;have HP:Hid (∀(t:List UInt8) (er:Int) (s':Sen) (r':List Nd) (W:World),StepTo l s r o t er s' r'→SensTo w g K l s' r' F W→Do31S g K l s r F o w (.returned (.tuple #[.string ⟨t.toArray⟩,.int .i64 er])) W):=LH fun t er s' r' _ h1 h2=>⟨t,er,s',r',rfl,h1,h2⟩;have R0:=LH (E31.first w (refC sd A n c) o);have HSn:=LH h;have HEp:=LH hsd;clear a h hlen hsd;unfold opV refV;unfold refC opC at R0;unfold refC opC at O0;unfold refC opC;generalize Do31S g K l s r F o w=PP at HP⊢
 go_enter Tryz.func10,Tryz.ntmps10
 go_upto_region 1 with fail;generalize (w.alloc (.cells #[.int .i64 sd.l,.int .i64 sd.k,.int .i64 sd.kd,.int .i64 sd.p.me,.int .i64 sd.p.wait,.int .u64 sd.p.kids,.int .i64 sd.ep,.int .i64 sd.ti,.int .u64 sd.heard,.int .u64 sd.cover,.bool sd.sent,.int .i64 sd.k,.int .i64 sd.l,.slice A n c] 37)).alloc (.cells #[.int .i64 o.kd,.int .i64 o.x,.int .i64 o.y,.int .i64 o.b.on,.int .i64 o.b.fr,.int .i64 o.b.k,.int .i64 o.b.l,.int .u64 o.b.cover,.slice o.A o.b.ops.length o.c,.int .i64 o.b.at_,.int .u8 o.b.by_.toNat] 44) =W0 at R0 O0⊢;have S0:=LH (HSn.out.below R0.out.b);have cx:=bC R0.out.x;have zx:=lB R0.out.x;have co:=bC R0.out.o;have zo:=lB R0.out.o
 try unfold opC at co
 go_wp2_with fail;refine(HT.out W0 (O0.out.keep R0.out.b.size (fun _ _=>rfl))).mono ?_;rintro e w1 ⟨tx,rfl,htx,hb⟩;have S1:=LH (S0.out.below hb);have B1:=LH (Below.then_ R0.out.b hb);rw [HEp.out] at htx;have HTx:=LH htx;clear hb htx S0 O0 R0 HSn HT cx zx co zo;go_wp2_with fail;refine(HH.out w1 tx S1.out (by have:=HTx.out.len;omega)).mono ?_;rintro e w2 ⟨rfl,s',r',ht,hh⟩;have T1:=LH (SensTo.from_ B1.out ht);have HS1:=LH (HS.out tx s' r' HTx.out hh);generalize hearE l s r tx=er at HS1⊢;clear ht hh HH HS S1 B1;go_wp2_with fail;exact HP.out [] er s' r' _ HS1.out T1.out
theorem law31_do (w:World) (g K l:Nat) (s:Sen) (r:List Nd) (F:Nat→Prop) (A:Option Addr) (n c:Nat) (o:OpX) (sd:Sen) (hsd:sd.ep=s.ep) (h:SensAt w g K l s r F) (a:Al l s r) (hO:Sl w w.heap.size encO o.A o.b.ops) (hn:o.b.ops.length≤50000) (hbk:o.b.k≤124) (hc:o.b.cover<2^64) :
 Calls Tryz.prog 10 #[.pointer (some ⟨g,0,none⟩),refV sd A n c,opV o] w (Do31S g K l s r F o w):=by
 by_cases h0:o.kd=0
 ·exact law31_do_put w g K l s r F A n c o sd hsd h a h0
 ·by_cases h1:o.kd=1
  ·exact law31_do_hear w g K l s r F A n c o sd hsd h a h1 hO hn hbk hc
  ·by_cases h3:o.kd=3
   ·exact law31_do_send w g K l s r F A n c o sd hsd h a h3
   ·by_cases h4:o.kd=4
    ·exact law31_do_next w g K l s r F A n c o sd hsd h a h4
    ·exact law31_do_tick w g K l s r F A n c o sd hsd h a h0 h1 h3 h4
theorem u64_of_wf {n:Int} (h: (Lit.int .u64 n).wf=true) : ∃m:Nat,n=m∧m<2^64:=by
 simp only [Lit.wf,Bool.and_eq_true,decide_eq_true_eq] at h;have hmn:IntKind.u64.min=0:=by decide
 have hmx:IntKind.u64.max=18446744073709551615:=by decide
 rw [hmn,hmx] at h;exact⟨n.toNat,by omega,by omega⟩
section
variable {H:Type} {enc:TypeId×Value→H} {w:World} {base:Nat} {spare:Nat→Bool} {held:Bool} {fuel:Nat} {cs:List Value} {x:DataW H×List MemPlace}
theorem place_of_trod (h:DataW.trod enc Tryz.prog w base spare held fuel 26 cs=some x) :
 ∃(l k K me wait ep:Int) (kids:Nat),cs= [.int .i64 l,.int .i64 k,.int .i64 K,.int .i64 me,.int .i64 wait,.int .i64 ep,.int .u64 kids]∧i64 l∧i64 k∧i64 K∧i64 me∧i64 wait∧i64 ep∧kids<2^64:=by
 obtain⟨xs,n,_,_,hlen,hxl,hf⟩:=DataW.trod_struct Tryz.underlying26 h;have hC: (Tryz.prog).cellsOf 26=7:=by kernel_rfl
 have hCc: (Tryz.prog).cellsOf 23=3:=by kernel_rfl
 have hCi: (Tryz.prog).cellsOf 3=1:=by kernel_rfl
 have hCu: (Tryz.prog).cellsOf 24=1:=by kernel_rfl
 rw [hC] at hlen
 match cs,hlen with
 | [c0,c1,c2,c3,c4,c5,c6],_=>
  match xs,hxl with
  | [y0,y1,y2,y3,y4],_=>
   have g0:DataW.trod enc Tryz.prog w base spare held n 23 (([c0,c1,c2,c3,c4,c5,c6].drop 0).take ((Tryz.prog).cellsOf 23)) =some y0:=hf 0 _ rfl;have g1:DataW.trod enc Tryz.prog w base spare held n 3 (([c0,c1,c2,c3,c4,c5,c6].drop 3).take ((Tryz.prog).cellsOf 3)) =some y1:=hf 1 _ rfl;have g2:DataW.trod enc Tryz.prog w base spare held n 3 (([c0,c1,c2,c3,c4,c5,c6].drop 4).take ((Tryz.prog).cellsOf 3)) =some y2:=hf 2 _ rfl;have g3:DataW.trod enc Tryz.prog w base spare held n 3 (([c0,c1,c2,c3,c4,c5,c6].drop 5).take ((Tryz.prog).cellsOf 3)) =some y3:=hf 3 _ rfl;have g4:DataW.trod enc Tryz.prog w base spare held n 24 (([c0,c1,c2,c3,c4,c5,c6].drop 6).take ((Tryz.prog).cellsOf 24)) =some y4:=hf 4 _ rfl;rw [hCc] at g0;rw [hCi] at g1 g2 g3;rw [hCu] at g4;obtain⟨l,k,K,e0,w0,w1,w2⟩:=conf_of_trod g0;obtain⟨me,e1,_,k1⟩:=DataW.trod_int Tryz.underlying3 g1;obtain⟨wait,e2,_,k2⟩:=DataW.trod_int Tryz.underlying3 g2;obtain⟨ep,e3,_,k3⟩:=DataW.trod_int Tryz.underlying3 g3;obtain⟨kd,e4,_,k4⟩:=DataW.trod_int Tryz.underlying24 g4;obtain⟨m,rfl,hm⟩:=u64_of_wf k4;simp at e0 e1 e2 e3 e4
   obtain⟨rfl,rfl,rfl⟩:=e0;subst e1 e2 e3 e4;exact⟨l,k,K,me,wait,ep,m,rfl,w0,w1,w2,i64_of_wf k1,i64_of_wf k2,i64_of_wf k3,hm⟩
end
def placeV (l k K me wait ep:Int) (kids:Nat) :Value:=.agg #[.int .i64 l,.int .i64 k,.int .i64 K,.int .i64 me,.int .i64 wait,.int .i64 ep,.int .u64 kids]
theorem open_Place {H:Type} {enc:TypeId×Value→H} {w:World} {base:Nat} {spare:Nat→Bool} {held:Bool} {r:Reach} {b0:Nat} {v:Value} {d:DataW H} {p:List MemPlace}
 (hv:Value.okWide Tryz.prog w r b0 26 v) (h:DataW.Trod enc Tryz.prog w base spare held 26 v d p) :
 ∃(l k K me wait ep:Int) (kids:Nat),v=placeV l k K me wait ep kids∧i64 l∧i64 k∧i64 K∧i64 me∧i64 wait∧i64 ep∧kids<2^64:=by
 obtain⟨cs,rfl,hsz⟩:=okWide_struct Tryz.underlying26 hv;obtain⟨fuel,hf⟩:=h;obtain⟨l,k,K,me,wait,ep,kids,hc,rest⟩:=place_of_trod hf;refine⟨l,k,K,me,wait,ep,kids,?_,rest⟩;obtain⟨c⟩:=cs;have:c= [.int .i64 l,.int .i64 k,.int .i64 K,.int .i64 me,.int .i64 wait,.int .i64 ep,.int .u64 kids]:=by simpa [Value.cells] using hc
 subst this
 rfl
def encOx:Enc OpX 11:=⟨fun o=> [.int .i64 o.kd,.int .i64 o.x,.int .i64 o.y,.int .i64 o.b.on,.int .i64 o.b.fr,.int .i64 o.b.k,.int .i64 o.b.l,.int .u64 o.b.cover,.slice o.A o.b.ops.length o.c,.int .i64 o.b.at_,.int .u8 o.b.by_.toNat],fun _=>rfl,
 by intro x u hu;simp at hu;rcases hu with rfl|rfl|rfl|rfl|rfl|rfl|rfl|rfl|rfl|rfl|rfl <;> rfl⟩
def OxOk (W:World) (o:OpX) :Prop:=Sl W W.heap.size encO o.A o.b.ops∧intsO o.b.ops∧(i64 o.kd∧i64 o.x∧i64 o.y)∧(i64 o.b.on∧i64 o.b.fr∧i64 o.b.k∧i64 o.b.l∧i64 o.b.at_)∧o.b.cover<2^64∧o.b.ops.length≤maxLen
section
variable {H:Type} {enc:TypeId×Value→H} {w:World} {base:Nat} {spare:Nat→Bool} {held:Bool} {fuel:Nat} {cs:List Value} {x:DataW H×List MemPlace}
theorem u8_of_wf {n:Int} (h: (Lit.int .u8 n).wf=true) : ∃m:UInt8,n= (m.toNat:Int):=by
 simp only [Lit.wf,Bool.and_eq_true,decide_eq_true_eq] at h;have hmn:IntKind.u8.min=0:=by decide
 have hmx:IntKind.u8.max=255:=by decide
 rw [hmn,hmx] at h;refine⟨UInt8.ofNat n.toNat,?_⟩;rw [UInt8.toNat_ofNat'];omega
theorem note_of_trod (h:DataW.trod enc Tryz.prog w base spare held fuel 42 cs=some x) :
 ∃(B:Nt) (A:Option Addr) (c:Nat),cs= [.int .i64 B.on,.int .i64 B.fr,.int .i64 B.k,.int .i64 B.l,.int .u64 B.cover,.slice A B.ops.length c,.int .i64 B.at_,.int .u8 B.by_.toNat]∧Sl w w.heap.size encO A B.ops∧intsO B.ops∧(i64 B.on∧i64 B.fr∧i64 B.k∧i64 B.l∧i64 B.at_)∧B.cover<2^64∧B.ops.length≤maxLen:=by
 obtain⟨xs,n,_,_,hlen,hxl,hf⟩:=DataW.trod_struct Tryz.underlying42 h;have hC: (Tryz.prog).cellsOf 42=8:=by kernel_rfl
 have hCi: (Tryz.prog).cellsOf 3=1:=by kernel_rfl
 have hCu: (Tryz.prog).cellsOf 24=1:=by kernel_rfl
 have hCb: (Tryz.prog).cellsOf 5=1:=by kernel_rfl
 have hCs: (Tryz.prog).cellsOf 40=1:=by kernel_rfl
 rw [hC] at hlen
 match cs,hlen with
 | [c0,c1,c2,c3,c4,c5,c6,c7],_=>
  match xs,hxl with
  | [y0,y1,y2,y3,y4,y5,y6,y7],_=>
   have g0:DataW.trod enc Tryz.prog w base spare held n 3 (([c0,c1,c2,c3,c4,c5,c6,c7].drop 0).take ((Tryz.prog).cellsOf 3)) =some y0:=hf 0 _ rfl;have g1:DataW.trod enc Tryz.prog w base spare held n 3 (([c0,c1,c2,c3,c4,c5,c6,c7].drop 1).take ((Tryz.prog).cellsOf 3)) =some y1:=hf 1 _ rfl;have g2:DataW.trod enc Tryz.prog w base spare held n 3 (([c0,c1,c2,c3,c4,c5,c6,c7].drop 2).take ((Tryz.prog).cellsOf 3)) =some y2:=hf 2 _ rfl;have g3:DataW.trod enc Tryz.prog w base spare held n 3 (([c0,c1,c2,c3,c4,c5,c6,c7].drop 3).take ((Tryz.prog).cellsOf 3)) =some y3:=hf 3 _ rfl;have g4:DataW.trod enc Tryz.prog w base spare held n 24 (([c0,c1,c2,c3,c4,c5,c6,c7].drop 4).take ((Tryz.prog).cellsOf 24)) =some y4:=hf 4 _ rfl;have g5:DataW.trod enc Tryz.prog w base spare held n 40 (([c0,c1,c2,c3,c4,c5,c6,c7].drop 5).take ((Tryz.prog).cellsOf 40)) =some y5:=hf 5 _ rfl;have g6:DataW.trod enc Tryz.prog w base spare held n 3 (([c0,c1,c2,c3,c4,c5,c6,c7].drop 6).take ((Tryz.prog).cellsOf 3)) =some y6:=hf 6 _ rfl;have g7:DataW.trod enc Tryz.prog w base spare held n 5 (([c0,c1,c2,c3,c4,c5,c6,c7].drop 7).take ((Tryz.prog).cellsOf 5)) =some y7:=hf 7 _ rfl;rw [hCi] at g0 g1 g2 g3 g6;rw [hCu] at g4;rw [hCs] at g5;rw [hCb] at g7;obtain⟨a0,e0,_,k0⟩:=DataW.trod_int Tryz.underlying3 g0;obtain⟨a1,e1,_,k1⟩:=DataW.trod_int Tryz.underlying3 g1;obtain⟨a2,e2,_,k2⟩:=DataW.trod_int Tryz.underlying3 g2;obtain⟨a3,e3,_,k3⟩:=DataW.trod_int Tryz.underlying3 g3;obtain⟨a4,e4,_,k4⟩:=DataW.trod_int Tryz.underlying24 g4;obtain⟨r,A,cap,e5,hS,hI,hm⟩:=ops_of_trod g5;obtain⟨a6,e6,_,k6⟩:=DataW.trod_int Tryz.underlying3 g6;obtain⟨a7,e7,_,k7⟩:=DataW.trod_int Tryz.underlying5 g7;obtain⟨m,rfl,hc⟩:=u64_of_wf k4;obtain⟨by_,rfl⟩:=u8_of_wf k7;simp at e0 e1 e2 e3 e4 e5 e6 e7
   subst e0 e1 e2 e3 e4 e5 e6 e7;exact⟨⟨a0,a1,a2,a3,m,r,a6,by_⟩,A,cap,rfl,hS,hI,⟨i64_of_wf k0,i64_of_wf k1,i64_of_wf k2,i64_of_wf k3,i64_of_wf k6⟩,hc,hm⟩
theorem op31_of_trod (h:DataW.trod enc Tryz.prog w base spare held fuel 44 cs=some x) : ∃o:OpX,cs=encOx.enc o∧OxOk w o:=by
 obtain⟨xs,n,_,_,hlen,hxl,hf⟩:=DataW.trod_struct Tryz.underlying44 h;have hC: (Tryz.prog).cellsOf 44=11:=by kernel_rfl
 have hCi: (Tryz.prog).cellsOf 3=1:=by kernel_rfl
 have hCn: (Tryz.prog).cellsOf 42=8:=by kernel_rfl
 rw [hC] at hlen
 match cs,hlen with
 | [c0,c1,c2,d0,d1,d2,d3,d4,d5,d6,d7],_=>
  match xs,hxl with
  | [y0,y1,y2,y3],_=>
   have g0:DataW.trod enc Tryz.prog w base spare held n 3 (([c0,c1,c2,d0,d1,d2,d3,d4,d5,d6,d7].drop 0).take ((Tryz.prog).cellsOf 3)) =some y0:=hf 0 _ rfl;have g1:DataW.trod enc Tryz.prog w base spare held n 3 (([c0,c1,c2,d0,d1,d2,d3,d4,d5,d6,d7].drop 1).take ((Tryz.prog).cellsOf 3)) =some y1:=hf 1 _ rfl;have g2:DataW.trod enc Tryz.prog w base spare held n 3 (([c0,c1,c2,d0,d1,d2,d3,d4,d5,d6,d7].drop 2).take ((Tryz.prog).cellsOf 3)) =some y2:=hf 2 _ rfl;have g3:DataW.trod enc Tryz.prog w base spare held n 42 (([c0,c1,c2,d0,d1,d2,d3,d4,d5,d6,d7].drop 3).take ((Tryz.prog).cellsOf 42)) =some y3:=hf 3 _ rfl;rw [hCi] at g0 g1 g2;rw [hCn] at g3;obtain⟨a0,e0,_,k0⟩:=DataW.trod_int Tryz.underlying3 g0;obtain⟨a1,e1,_,k1⟩:=DataW.trod_int Tryz.underlying3 g1;obtain⟨a2,e2,_,k2⟩:=DataW.trod_int Tryz.underlying3 g2;obtain⟨B,A,c,e3,hS,hI,hN,hc,hm⟩:=note_of_trod g3;simp at e0 e1 e2 e3
   obtain⟨rfl,rfl,rfl,rfl,rfl,rfl,rfl,rfl⟩:=e3;subst e0 e1 e2;exact⟨⟨a0,a1,a2,B,A,c⟩,rfl,hS,hI,⟨i64_of_wf k0,i64_of_wf k1,i64_of_wf k2⟩,hN,hc,hm⟩
end
section
variable {H:Type} {enc:TypeId×Value→H} {w:World} {base:Nat} {spare:Nat→Bool} {held:Bool}
theorem open_Ops31 {r:Reach} {b0:Nat} {v:Value} {d:DataW H} {p:List MemPlace}
 (hv:Value.okWide Tryz.prog w r b0 27 v) (h:DataW.Trod enc Tryz.prog w base spare held 27 v d p) :
 ∃(ss:List OpX) (A:Option Addr) (cap:Nat),v=.slice A ss.length cap∧Sl w w.heap.size encOx A ss∧(∀s∈ss,OxOk w s)∧ss.length≤maxLen:=by
 obtain⟨A,n,cap,rfl⟩:=okWide_slice Tryz.underlying27 hv;obtain⟨fuel,hf⟩:=h;obtain⟨l,A',cap',hc,rest⟩:=slice_of_trod encOx (OxOk w) Tryz.underlying27 (by kernel_rfl) (by decide) (fun fuel cs x h=>op31_of_trod h) hf;have hc':Value.slice A n cap=.slice A' l.length cap':=by simpa [Value.cells] using hc
 rw [hc'];exact⟨l,A',cap',rfl,rest⟩
end
structure FewO (o:OpX) :Prop where
 n:o.b.ops.length≤20
 on0: -100≤o.b.on
 on1:o.b.on≤100
 k1:o.b.k≤50
 l1:o.b.l≤48
 k0:1≤o.b.k
 l0:1≤o.b.l
 kl:o.b.l*o.b.k≤50
def FewN (L:List OpX) (q:Nat) :Prop:=∀(i:Nat) (h:i<L.length),i<q→FewO (L[i])
theorem FewN.step {L:List OpX} {q:Nat} (h:FewN L q) (hq:q<L.length) (ho:FewO (L[q])) :FewN L (q+1):=by
 intro i hi hlt;by_cases he:i=q
 ·subst he;exact ho
 ·exact h i hi (by omega)
structure FewC (n:Nat) (l k K:Int) :Prop where
 n:n≤40
 k1:k≤50
 l1:l≤48
 k0:1≤k
 l0:1≤l
 lk:l*k≤50
 d:K=1→l≤10
def FewPost (L:List OpX) (l k K:Int) (w:World) (e:Ending) (w':World) :Prop:=∃b,e=.returned (.bool b)∧(b=true→FewC L.length l k K∧FewN L L.length)∧Below w.heap.size w w'
theorem mul50 {a b:Int} (ha:1≤a) (hb:1≤b) (ha2:a≤48) (hb2:b≤50) :wrap64 (a*b) =a*b:=by
 have h1:0≤a*b:=Int.mul_nonneg (by omega) (by omega);have h2:a*b≤48*50:=Int.mul_le_mul ha2 hb2 (by omega) (by omega);generalize a*b=p at h1 h2⊢;unfold wrap64;omega
theorem conf_below {w:World} {l k K:Int} :Below w.heap.size w (w.alloc (.cells #[.int .i64 l,.int .i64 k,.int .i64 K] 23)):=bE
theorem law31_few_0 (w:World) (l k K:Int) (A:Option Addr) (c:Nat) (L:List OpX)  (h0:40< (L.length:Int)) :
 Calls Tryz.prog 6 #[.agg #[.int .i64 l,.int .i64 k,.int .i64 K],.slice A L.length c] w (FewPost L l k K w):=by
 have BB:=LH (conf_below (w:=w) (l:=l) (k:=k) (K:=K));have g0:decide (40< (L.length:Int)) =true:=by simp only [decide_eq_true_eq];exact h0
 clear h0
 go_enter Tryz.func6,Tryz.ntmps6
 go_wp2_with fail;exact bR (v:=.bool false) (by simp only [results,Tryz.results6];go_simp) rfl ⟨false,rfl,fun h=>(by cases h),BB.out⟩
theorem law31_few_1 (w:World) (l k K:Int) (A:Option Addr) (c:Nat) (L:List OpX) (h0: ¬40< (L.length:Int)) (h1:50<k) :
 Calls Tryz.prog 6 #[.agg #[.int .i64 l,.int .i64 k,.int .i64 K],.slice A L.length c] w (FewPost L l k K w):=by
 have BB:=LH (conf_below (w:=w) (l:=l) (k:=k) (K:=K));have g0:decide (40< (L.length:Int)) =false:=by simp only [decide_eq_false_iff_not];exact h0
 have g1:decide (50<k) =true:=by simp only [decide_eq_true_eq];exact h1
 clear h0 h1
 go_enter Tryz.func6,Tryz.ntmps6
 go_wp2_with fail;exact bR (v:=.bool false) (by simp only [results,Tryz.results6];go_simp) rfl ⟨false,rfl,fun h=>(by cases h),BB.out⟩
theorem law31_few_2 (w:World) (l k K:Int) (A:Option Addr) (c:Nat) (L:List OpX) (h0: ¬40< (L.length:Int)) (h1: ¬50<k) (h2:48<l) :
 Calls Tryz.prog 6 #[.agg #[.int .i64 l,.int .i64 k,.int .i64 K],.slice A L.length c] w (FewPost L l k K w):=by
 have BB:=LH (conf_below (w:=w) (l:=l) (k:=k) (K:=K));have g0:decide (40< (L.length:Int)) =false:=by simp only [decide_eq_false_iff_not];exact h0
 have g1:decide (50<k) =false:=by simp only [decide_eq_false_iff_not];exact h1
 have g2:decide (48<l) =true:=by simp only [decide_eq_true_eq];exact h2
 clear h0 h1 h2
 go_enter Tryz.func6,Tryz.ntmps6
 go_wp2_with fail;exact bR (v:=.bool false) (by simp only [results,Tryz.results6];go_simp) rfl ⟨false,rfl,fun h=>(by cases h),BB.out⟩
theorem law31_few_3 (w:World) (l k K:Int) (A:Option Addr) (c:Nat) (L:List OpX) (h0: ¬40< (L.length:Int)) (h1: ¬50<k) (h2: ¬48<l) (h3:k<1) :
 Calls Tryz.prog 6 #[.agg #[.int .i64 l,.int .i64 k,.int .i64 K],.slice A L.length c] w (FewPost L l k K w):=by
 have BB:=LH (conf_below (w:=w) (l:=l) (k:=k) (K:=K));have g0:decide (40< (L.length:Int)) =false:=by simp only [decide_eq_false_iff_not];exact h0
 have g1:decide (50<k) =false:=by simp only [decide_eq_false_iff_not];exact h1
 have g2:decide (48<l) =false:=by simp only [decide_eq_false_iff_not];exact h2
 have g3:decide (k<1) =true:=by simp only [decide_eq_true_eq];exact h3
 clear h0 h1 h2 h3
 go_enter Tryz.func6,Tryz.ntmps6
 go_wp2_with fail;exact bR (v:=.bool false) (by simp only [results,Tryz.results6];go_simp) rfl ⟨false,rfl,fun h=>(by cases h),BB.out⟩
theorem law31_few_4 (w:World) (l k K:Int) (A:Option Addr) (c:Nat) (L:List OpX) (h0: ¬40< (L.length:Int)) (h1: ¬50<k) (h2: ¬48<l) (h3: ¬k<1) (h4:l<1) :
 Calls Tryz.prog 6 #[.agg #[.int .i64 l,.int .i64 k,.int .i64 K],.slice A L.length c] w (FewPost L l k K w):=by
 have BB:=LH (conf_below (w:=w) (l:=l) (k:=k) (K:=K));have g0:decide (40< (L.length:Int)) =false:=by simp only [decide_eq_false_iff_not];exact h0
 have g1:decide (50<k) =false:=by simp only [decide_eq_false_iff_not];exact h1
 have g2:decide (48<l) =false:=by simp only [decide_eq_false_iff_not];exact h2
 have g3:decide (k<1) =false:=by simp only [decide_eq_false_iff_not];exact h3
 have g4:decide (l<1) =true:=by simp only [decide_eq_true_eq];exact h4
 clear h0 h1 h2 h3 h4
 go_enter Tryz.func6,Tryz.ntmps6
 go_wp2_with fail;exact bR (v:=.bool false) (by simp only [results,Tryz.results6];go_simp) rfl ⟨false,rfl,fun h=>(by cases h),BB.out⟩
theorem law31_few_5 (w:World) (l k K:Int) (A:Option Addr) (c:Nat) (L:List OpX) (h0: ¬40< (L.length:Int)) (h1: ¬50<k) (h2: ¬48<l) (h3: ¬k<1) (h4: ¬l<1) (h5:50<l*k) :
 Calls Tryz.prog 6 #[.agg #[.int .i64 l,.int .i64 k,.int .i64 K],.slice A L.length c] w (FewPost L l k K w):=by
 have BB:=LH (conf_below (w:=w) (l:=l) (k:=k) (K:=K));have g0:decide (40< (L.length:Int)) =false:=by simp only [decide_eq_false_iff_not];exact h0
 have g1:decide (50<k) =false:=by simp only [decide_eq_false_iff_not];exact h1
 have g2:decide (48<l) =false:=by simp only [decide_eq_false_iff_not];exact h2
 have g3:decide (k<1) =false:=by simp only [decide_eq_false_iff_not];exact h3
 have g4:decide (l<1) =false:=by simp only [decide_eq_false_iff_not];exact h4
 have g5:decide (50<l*k) =true:=by simp only [decide_eq_true_eq];exact h5
 have hw:=mul50 (a:=l) (b:=k) (by omega) (by omega) (by omega) (by omega);clear h0 h1 h2 h3 h4 h5
 go_enter Tryz.func6,Tryz.ntmps6
 go_wp2_with fail;exact bR (v:=.bool false) (by simp only [results,Tryz.results6];go_simp) rfl ⟨false,rfl,fun h=>(by cases h),BB.out⟩
theorem law31_few_6 (w:World) (l k K:Int) (A:Option Addr) (c:Nat) (L:List OpX) (h0: ¬40< (L.length:Int)) (h1: ¬50<k) (h2: ¬48<l) (h3: ¬k<1) (h4: ¬l<1) (h5: ¬50<l*k) (h6:K=1) (h7:10<l) :
 Calls Tryz.prog 6 #[.agg #[.int .i64 l,.int .i64 k,.int .i64 K],.slice A L.length c] w (FewPost L l k K w):=by
 have BB:=LH (conf_below (w:=w) (l:=l) (k:=k) (K:=K));have g0:decide (40< (L.length:Int)) =false:=by simp only [decide_eq_false_iff_not];exact h0
 have g1:decide (50<k) =false:=by simp only [decide_eq_false_iff_not];exact h1
 have g2:decide (48<l) =false:=by simp only [decide_eq_false_iff_not];exact h2
 have g3:decide (k<1) =false:=by simp only [decide_eq_false_iff_not];exact h3
 have g4:decide (l<1) =false:=by simp only [decide_eq_false_iff_not];exact h4
 have g5:decide (50<l*k) =false:=by simp only [decide_eq_false_iff_not];exact h5
 have hw:=mul50 (a:=l) (b:=k) (by omega) (by omega) (by omega) (by omega);have g6: (K == 1) =true:=by simpa using h6
 have g7:decide (10<l) =true:=by simpa using h7
 clear h0 h1 h2 h3 h4 h5 h6 h7
 go_enter Tryz.func6,Tryz.ntmps6
 go_wp2_with fail;exact bR (v:=.bool false) (by simp only [results,Tryz.results6];go_simp) rfl ⟨false,rfl,fun h=>(by cases h),BB.out⟩
theorem law31_few_7 (w:World) (l k K:Int) (A:Option Addr) (c:Nat) (L:List OpX) (hS:Sl w w.heap.size encOx A L) (h0: ¬40< (L.length:Int)) (h1: ¬50<k) (h2: ¬48<l) (h3: ¬k<1) (h4: ¬l<1) (h5: ¬50<l*k) (hd:K=1→l≤10) :
 Calls Tryz.prog 6 #[.agg #[.int .i64 l,.int .i64 k,.int .i64 K],.slice A L.length c] w (FewPost L l k K w):=by
 have HC:Hid (FewC L.length l k K):=LH ⟨by omega,by omega,by omega,by omega,by omega,by omega,hd⟩;have HP:Hid (∀W,FewN L L.length→Below w.heap.size w W→FewPost L l k K w (.returned (.bool true)) W):=LH fun W h1 h2=>⟨true,rfl,fun _=>⟨HC.out,h1⟩,h2⟩;have HN:Hid (∀W,Below w.heap.size w W→FewPost L l k K w (.returned (.bool false)) W):=LH fun W h2=>⟨false,rfl,fun h=>(by cases h),h2⟩;generalize FewPost L l k K w=PP at HP HN⊢;have BB:=LH (conf_below (w:=w) (l:=l) (k:=k) (K:=K));have g0:decide (40< (L.length:Int)) =false:=by simp only [decide_eq_false_iff_not];exact h0
 have g1:decide (50<k) =false:=by simp only [decide_eq_false_iff_not];exact h1
 have g2:decide (48<l) =false:=by simp only [decide_eq_false_iff_not];exact h2
 have g3:decide (k<1) =false:=by simp only [decide_eq_false_iff_not];exact h3
 have g4:decide (l<1) =false:=by simp only [decide_eq_false_iff_not];exact h4
 have g5:decide (50<l*k) =false:=by simp only [decide_eq_false_iff_not];exact h5
 have hw:=mul50 (a:=l) (b:=k) (by omega) (by omega) (by omega) (by omega);have HS:=LH hS;have hn40:L.length≤40:=by omega
 have hg: (K == 1) =false∨((K == 1) =true∧decide (10<l) =false):=by
  by_cases h1:K=1
  ·refine .inr ⟨by simpa using h1,?_⟩
   simp only [decide_eq_false_iff_not];have:=hd h1;omega
  ·exact .inl (by simpa using h1)
 clear hS hd HC h0 h1 h2 h3 h4 h5;rcases hg with hg| ⟨hg,hg2⟩
 all_goals
  go_enter Tryz.func6,Tryz.ntmps6
  go_upto_region 3 with fail;generalize w.alloc (.cells #[.int .i64 l,.int .i64 k,.int .i64 K] 23) =W0 at BB⊢;clear g0 g1 g2 g3 g4 g5 hw hg
  try clear hg2
  go_wp2_with fail
  go_loopw [50] (fun i W=>∃q:Nat,i=.int .i64 q∧q≤L.length∧FewN L q∧Below w.heap.size w W) (fun i _=>L.length - (intOf i).toNat)
  case atStart=>exact⟨0,rfl,Nat.zero_le _,fun i _ h=>absurd h (Nat.not_lt_zero _),BB.out⟩
  case round=>
   obtain⟨q,rfl,hq,hal,hB⟩:=hrel;have HA:=LH hal;have HB:=LH hB;have sz:=hB.size;clear hal hB;by_cases hlt:q<L.length
   case neg=>
    obtain rfl:q=L.length:=by omega
    have hqi:decide ((L.length:Int) < (L.length:Int)) =false:=by simp
    go_wp2_with fail;exact HP.out _ HA.out HB.out
   have hqi: (q:Int) < (L.length:Int):=by omega
   have HFs:Hid (FewO (L[q])→FewN L (q+1)):=LH (HA.out.step hlt);obtain⟨b,off,rfl,hb,hc⟩:=HS.out.at_ hlt;have bc: ∀p,wr.cell? ⟨b,p,none⟩ =w.cell? ⟨b,p,none⟩:=fun p=>HB.out.cell (p:=⟨b,p,none⟩) hb;have d0:=(bc _).trans (hc 0 _ rfl);have d1:=(bc _).trans (hc 1 _ rfl);have d2:=(bc _).trans (hc 2 _ rfl);have d3:=(bc _).trans (hc 3 _ rfl);have d4:=(bc _).trans (hc 4 _ rfl);have d5:=(bc _).trans (hc 5 _ rfl);have d6:=(bc _).trans (hc 6 _ rfl);have d7:=(bc _).trans (hc 7 _ rfl);have d8:=(bc _).trans (hc 8 _ rfl);have d9:=(bc _).trans (hc 9 _ rfl);have d10:=(bc _).trans (hc 10 _ rfl);simp only [Nat.add_zero] at d0;have zb:b<wr.heap.size:=Nat.lt_of_lt_of_le hb sz;clear hc bc;generalize L[q] =o at HFs d0 d1 d2 d3 d4 d5 d6 d7 d8 d9 d10;go_upto_region 6 with fail;have X1:=LH (heap_alloc_new wr (.cells #[.int .i64 o.kd,.int .i64 o.x,.int .i64 o.y,.int .i64 o.b.on,.int .i64 o.b.fr,.int .i64 o.b.k,.int .i64 o.b.l,.int .u64 o.b.cover,.slice o.A o.b.ops.length o.c,.int .i64 o.b.at_,.int .u8 o.b.by_.toNat] 44));have B1:Hid (Below w.heap.size w (wr.alloc (.cells #[.int .i64 o.kd,.int .i64 o.x,.int .i64 o.y,.int .i64 o.b.on,.int .i64 o.b.fr,.int .i64 o.b.k,.int .i64 o.b.l,.int .u64 o.b.cover,.slice o.A o.b.ops.length o.c,.int .i64 o.b.at_,.int .u8 o.b.by_.toNat] 44))):=LH (Below.then_ HB.out ((Below.refl wr.heap.size wr).alloc (Nat.le_refl _) _));clear d0 d1 d2 d3 d4 d5 d6 d7 d8 d9 d10 zb HB HA;generalize wr.alloc (.cells #[.int .i64 o.kd,.int .i64 o.x,.int .i64 o.y,.int .i64 o.b.on,.int .i64 o.b.fr,.int .i64 o.b.k,.int .i64 o.b.l,.int .u64 o.b.cover,.slice o.A o.b.ops.length o.c,.int .i64 o.b.at_,.int .u8 o.b.by_.toNat] 44) =w1 at X1 B1⊢;generalize wr.heap.size=px at X1⊢;have cx:=bC X1.out;have zx:=lB X1.out;by_cases t0:20< (o.b.ops.length:Int)
   case pos=>
    have u0:decide (20< (o.b.ops.length:Int)) =true:=by simp only [decide_eq_true_eq];exact t0
    clear t0;go_wp2_with fail;exact HN.out _ B1.out
   have u0:decide (20< (o.b.ops.length:Int)) =false:=by simp only [decide_eq_false_iff_not];exact t0
   by_cases t1:o.b.on< -100
   case pos=>
    have u1:decide (o.b.on< -100) =true:=by simp only [decide_eq_true_eq];exact t1
    clear t0 t1;go_wp2_with fail;exact HN.out _ B1.out
   have u1:decide (o.b.on< -100) =false:=by simp only [decide_eq_false_iff_not];exact t1
   by_cases t2:100<o.b.on
   case pos=>
    have u2:decide (100<o.b.on) =true:=by simp only [decide_eq_true_eq];exact t2
    clear t0 t1 t2;go_wp2_with fail;exact HN.out _ B1.out
   have u2:decide (100<o.b.on) =false:=by simp only [decide_eq_false_iff_not];exact t2
   by_cases t3:50<o.b.k
   case pos=>
    have u3:decide (50<o.b.k) =true:=by simp only [decide_eq_true_eq];exact t3
    clear t0 t1 t2 t3;go_wp2_with fail;exact HN.out _ B1.out
   have u3:decide (50<o.b.k) =false:=by simp only [decide_eq_false_iff_not];exact t3
   by_cases t4:48<o.b.l
   case pos=>
    have u4:decide (48<o.b.l) =true:=by simp only [decide_eq_true_eq];exact t4
    clear t0 t1 t2 t3 t4;go_wp2_with fail;exact HN.out _ B1.out
   have u4:decide (48<o.b.l) =false:=by simp only [decide_eq_false_iff_not];exact t4
   by_cases t5:o.b.k<1
   case pos=>
    have u5:decide (o.b.k<1) =true:=by simp only [decide_eq_true_eq];exact t5
    clear t0 t1 t2 t3 t4 t5;go_wp2_with fail;exact HN.out _ B1.out
   have u5:decide (o.b.k<1) =false:=by simp only [decide_eq_false_iff_not];exact t5
   by_cases t6:o.b.l<1
   case pos=>
    have u6:decide (o.b.l<1) =true:=by simp only [decide_eq_true_eq];exact t6
    clear t0 t1 t2 t3 t4 t5 t6;go_wp2_with fail;exact HN.out _ B1.out
   have u6:decide (o.b.l<1) =false:=by simp only [decide_eq_false_iff_not];exact t6
   by_cases t7:50<o.b.l*o.b.k
   case pos=>
    have u7:decide (50<o.b.l*o.b.k) =true:=by simp only [decide_eq_true_eq];exact t7
    have hw:=mul50 (a:=o.b.l) (b:=o.b.k) (by omega) (by omega) (by omega) (by omega);clear t0 t1 t2 t3 t4 t5 t6 t7;go_wp2_with fail;exact HN.out _ B1.out
   have u7:decide (50<o.b.l*o.b.k) =false:=by simp only [decide_eq_false_iff_not];exact t7
   have hw:=mul50 (a:=o.b.l) (b:=o.b.k) (by omega) (by omega) (by omega) (by omega);have HNx:=LH (HFs.out ⟨by omega,by omega,by omega,by omega,by omega,by omega,by omega,by omega⟩);clear t0 t1 t2 t3 t4 t5 t6 t7;go_wp2_with fail;go_roundw
   case rel=>exact⟨q+1,by go_num,by omega,HNx.out,B1.out⟩
   case measure=>simp [intOf];omega
theorem law31_few (w:World) (l k K:Int) (A:Option Addr) (c:Nat) (L:List OpX) (hS:Sl w w.heap.size encOx A L) :
 Calls Tryz.prog 6 #[confV l k K,.slice A L.length c] w (FewPost L l k K w):=by
 unfold confV;by_cases h0:40< (L.length:Int)
 ·exact law31_few_0 w l k K A c L h0
 by_cases h1:50<k
 ·exact law31_few_1 w l k K A c L h0 h1
 by_cases h2:48<l
 ·exact law31_few_2 w l k K A c L h0 h1 h2
 by_cases h3:k<1
 ·exact law31_few_3 w l k K A c L h0 h1 h2 h3
 by_cases h4:l<1
 ·exact law31_few_4 w l k K A c L h0 h1 h2 h3 h4
 by_cases h5:50<l*k
 ·exact law31_few_5 w l k K A c L h0 h1 h2 h3 h4 h5
 by_cases h6:K=1∧10<l
 ·exact law31_few_6 w l k K A c L h0 h1 h2 h3 h4 h5 h6.1 h6.2
 ·exact law31_few_7 w l k K A c L hS h0 h1 h2 h3 h4 h5 (fun h=>by have:=fun h7=>h6 ⟨h,h7⟩;omega)
theorem isDig_nat31 {l k K:Int} (h:isDig l k K=true) : ∃a b:Nat,l=a∧K=b:=by
 simp only [isDig,isPool,Bool.and_eq_true,decide_eq_true_eq] at h;exact⟨l.toNat,K.toNat,by omega,by omega⟩
theorem newS_nat {l k K:Int} {p:Plc} {ep:Int} (h:newS l k K p ep=true) : ∃a b:Nat,l=a∧K=b:=by
 simp only [newS,Bool.and_eq_true] at h;exact isDig_nat31 h.1.1.1
def PlAt (w:World) (l k K me wait ep:Int) (kids:Nat) (W:World) :Prop:=W.heap[w.heap.size]? =some (.cells #[.int .i64 l,.int .i64 k,.int .i64 K,.int .i64 me,.int .i64 wait,.int .i64 ep,.int .u64 kids] 26 (0,0))
theorem PlAt.below {w W W':World} {l k K me wait ep:Int} {kids:Nat} (h:PlAt w l k K me wait ep kids W) (hb:Below W.heap.size W W') :PlAt w l k K me wait ep kids W':=bB h hb
theorem store14_otm {W:World} {b q:Nat} (h:q≠b) (v0 v1 v2 v3 v4 v5 v6 v7 v8 v9 v10 v11 v12 v13:Value) : (q14 W b v0 v1 v2 v3 v4 v5 v6 v7 v8 v9 v10 v11 v12 v13).heap[q]? =W.heap[q]? :=
 (Below.heap_setCell _ _ _ _ h).trans ((Below.heap_setCell _ _ _ _ h).trans ((Below.heap_setCell _ _ _ _ h).trans ((Below.heap_setCell _ _ _ _ h).trans ((Below.heap_setCell _ _ _ _ h).trans ((Below.heap_setCell _ _ _ _ h).trans ((Below.heap_setCell _ _ _ _ h).trans ((Below.heap_setCell _ _ _ _ h).trans ((Below.heap_setCell _ _ _ _ h).trans ((Below.heap_setCell _ _ _ _ h).trans ((Below.heap_setCell _ _ _ _ h).trans ((Below.heap_setCell _ _ _ _ h).trans ((Below.heap_setCell _ _ _ _ h).trans ((Below.heap_setCell _ _ _ _ h).trans (rfl))))))))))))))
def zeroR:Value:=.agg #[.int .i64 0,.int .i64 0,.int .i64 0,.int .i64 0,.int .i64 0,.int .u64 0,.int .i64 0,.int .i64 0,.int .u64 0,.int .u64 0,.bool false,.int .i64 0,.int .i64 0,.slice none 0 0]
structure MdS (w:World) (l k K me wait ep:Int) (kids:Nat) (W:World) :Prop where
 p:W.heap[w.heap.size]? =some (.cells #[.int .i64 l,.int .i64 k,.int .i64 K,.int .i64 me,.int .i64 wait,.int .i64 ep,.int .u64 kids] 26 (0,0))
 z:W.heap[w.heap.size+1]? =some (.cells #[.int .i64 0,.int .i64 0,.int .i64 0,.int .i64 0,.int .i64 0,.int .u64 0,.int .i64 0,.int .i64 0,.int .u64 0,.int .u64 0,.bool false,.int .i64 0,.int .i64 0,.slice none 0 0] 37 (0,0))
 b:Below w.heap.size w W
theorem MdS.below {w W W':World} {l k K me wait ep:Int} {kids:Nat} (h:MdS w l k K me wait ep kids W) (hb:Below W.heap.size W W') :MdS w l k K me wait ep kids W':=⟨bB h.p hb,bB h.z hb,Below.then_ h.b hb⟩
theorem MdS.first (w:World) (l k K me wait ep:Int) (kids:Nat) :MdS w l k K me wait ep kids ((w.alloc (.cells #[.int .i64 l,.int .i64 k,.int .i64 K,.int .i64 me,.int .i64 wait,.int .i64 ep,.int .u64 kids] 26)).alloc (.cells #[.int .i64 0,.int .i64 0,.int .i64 0,.int .i64 0,.int .i64 0,.int .u64 0,.int .i64 0,.int .i64 0,.int .u64 0,.int .u64 0,.bool false,.int .i64 0,.int .i64 0,.slice none 0 0] 37)):=
 ⟨(heap_new_lt _ _ _ (by simp)).trans (heap_alloc_new w _),heap_new_at (w.alloc _) _ _ (by simp),bE⟩
theorem law31_made_no (w:World) (l k K me wait ep:Int) (kids:Nat) (hkids:kids<2^64) (hz:newS l k K ⟨me,kids,wait⟩ ep=false) :
 Calls Tryz.prog 8 #[placeV l k K me wait ep kids] w fun e w'=>e=.returned (.tuple #[.pointer none,zeroR])∧Below w.heap.size w w':=by
 have HN:=LH (fun W=>sensor_New_no W l k K ⟨me,kids,wait⟩ ep hkids hz);have M0:=LH (MdS.first w l k K me wait ep kids);unfold confV plcV at HN;dsimp only at HN;unfold placeV zeroR;clear hz
 go_enter Tryz.func8,Tryz.ntmps8
 go_upto_region 1 with fail;generalize ((w.alloc (.cells #[.int .i64 l,.int .i64 k,.int .i64 K,.int .i64 me,.int .i64 wait,.int .i64 ep,.int .u64 kids] 26)).alloc (.cells #[.int .i64 0,.int .i64 0,.int .i64 0,.int .i64 0,.int .i64 0,.int .u64 0,.int .i64 0,.int .i64 0,.int .u64 0,.int .u64 0,.bool false,.int .i64 0,.int .i64 0,.slice none 0 0] 37)) =W0 at M0⊢;have c0:=bC M0.out.p;have z0:=lB M0.out.p;go_wp2_with fail;refine(HN.out W0).mono ?_;rintro e w1 ⟨rfl,hb⟩;have M1:=LH (M0.out.below hb);clear hb c0 z0;have c1:=bC M1.out.z;have f1:=bF M1.out.z;have z1:=lB M1.out.z;go_wp2_with fail;have Y3:Hid ((q14 w1 (w.heap.size+1) (.int .i64 0) (.int .i64 0) (.int .i64 0) (.int .i64 0) (.int .i64 0) (.int .u64 0) (.int .i64 0) (.int .i64 0) (.int .u64 0) (.int .u64 0) (.bool false) (.int .i64 0) (.int .i64 0) (.slice none 0 0)).heap[w.heap.size+1]? =some (.cells #[.int .i64 0,.int .i64 0,.int .i64 0,.int .i64 0,.int .i64 0,.int .u64 0,.int .i64 0,.int .i64 0,.int .u64 0,.int .u64 0,.bool false,.int .i64 0,.int .i64 0,.slice none 0 0] 37 (0,0))):=LH (store14 M1.out.z (.int .i64 0) (.int .i64 0) (.int .i64 0) (.int .i64 0) (.int .i64 0) (.int .u64 0) (.int .i64 0) (.int .i64 0) (.int .u64 0) (.int .u64 0) (.bool false) (.int .i64 0) (.int .i64 0) (.slice none 0 0));have B3:Hid (Below w.heap.size w (q14 w1 (w.heap.size+1) (.int .i64 0) (.int .i64 0) (.int .i64 0) (.int .i64 0) (.int .i64 0) (.int .u64 0) (.int .i64 0) (.int .i64 0) (.int .u64 0) (.int .u64 0) (.bool false) (.int .i64 0) (.int .i64 0) (.slice none 0 0))):=LH (store14_below M1.out.b (by simp) (.int .i64 0) (.int .i64 0) (.int .i64 0) (.int .i64 0) (.int .i64 0) (.int .u64 0) (.int .i64 0) (.int .i64 0) (.int .u64 0) (.int .u64 0) (.bool false) (.int .i64 0) (.int .i64 0) (.slice none 0 0));clear c1 f1 z1;rw [q14e];generalize (q14 w1 (w.heap.size+1) (.int .i64 0) (.int .i64 0) (.int .i64 0) (.int .i64 0) (.int .i64 0) (.int .u64 0) (.int .i64 0) (.int .i64 0) (.int .u64 0) (.int .u64 0) (.bool false) (.int .i64 0) (.int .i64 0) (.slice none 0 0)) =W3 at Y3 B3⊢;have c3:=bC Y3.out;have f3:=bF Y3.out;have z3:=lB Y3.out
 try go_wp2_with fail
 exact bR (v:=.tuple #[.pointer none,.agg #[.int .i64 0,.int .i64 0,.int .i64 0,.int .i64 0,.int .i64 0,.int .u64 0,.int .i64 0,.int .i64 0,.int .u64 0,.int .u64 0,.bool false,.int .i64 0,.int .i64 0,.slice none 0 0]]) (by simp only [results,Tryz.results8];go_simp) rfl ⟨rfl,B3.out⟩
def MadeIn (w:World) (b a:Nat) (s:Sen) (e:Ending) (W:World) :Prop:=∃g,e=.returned (.tuple #[.pointer (some ⟨g,0,none⟩),refV s none 0 0])∧SensIn w g b a s [] W
theorem law31_made (w:World) (a b:Nat) (k me wait ep:Int) (kids:Nat) (hkids:kids<2^64) (hz:newS a k b ⟨me,kids,wait⟩ ep=true) :
 Calls Tryz.prog 8 #[placeV a k b me wait ep kids] w (MadeIn w b a (senNew a k b ⟨me,kids,wait⟩ ep)):=by
 have HN:=LH (fun W=>sensor_New W a b k ⟨me,kids,wait⟩ ep hkids hz);have HIs:=LH (fun W=>ref31_Is W a k b ⟨me,kids,wait⟩ ep hkids);have HR:=LH (fun W=>ref31_New W a k b ⟨me,kids,wait⟩ ep);rw [hz] at HIs;have M0:=LH (MdS.first w a k b me wait ep kids);unfold confV plcV at HN;unfold confV at HR HIs;dsimp only at HN HR HIs;have HE:Hid (∀g W,SensIn w g b a (senNew a k b ⟨me,kids,wait⟩ ep) [] W→MadeIn w b a (senNew a k b ⟨me,kids,wait⟩ ep) (.returned (.tuple #[.pointer (some ⟨g,0,none⟩),.agg #[.int .i64 (a:Int),.int .i64 k,.int .i64 (b:Int),.int .i64 me,.int .i64 wait,.int .u64 kids,.int .i64 ep,.int .i64 0,.int .u64 0,.int .u64 ((withC 0 me:Nat) :Int),.bool false,.int .i64 k,.int .i64 (a:Int),.slice none 0 0]])) W):=LH fun g W h=>⟨g,rfl,h⟩;unfold refV refC at HR;have HR2:Hid (∀W,Calls Tryz.prog 36 #[.agg #[.int .i64 a,.int .i64 k,.int .i64 b],.int .i64 me,.int .u64 kids,.int .i64 wait,.int .i64 ep] W fun e w'=>e=.returned (.agg #[.int .i64 (a:Int),.int .i64 k,.int .i64 (b:Int),.int .i64 me,.int .i64 wait,.int .u64 kids,.int .i64 ep,.int .i64 0,.int .u64 0,.int .u64 ((withC 0 me:Nat) :Int),.bool false,.int .i64 k,.int .i64 (a:Int),.slice none 0 0])∧Below W.heap.size W w'):=HR;clear HR;generalize senNew a k b ⟨me,kids,wait⟩ ep=sn at HN HE⊢;unfold placeV;clear hz
 go_enter Tryz.func8,Tryz.ntmps8
 go_upto_region 1 with fail;have Z0:Hid (((w.alloc (.cells #[.int .i64 a,.int .i64 k,.int .i64 b,.int .i64 me,.int .i64 wait,.int .i64 ep,.int .u64 kids] 26)).alloc (.cells #[.int .i64 0,.int .i64 0,.int .i64 0,.int .i64 0,.int .i64 0,.int .u64 0,.int .i64 0,.int .i64 0,.int .u64 0,.int .u64 0,.bool false,.int .i64 0,.int .i64 0,.slice none 0 0] 37)).heap.size=w.heap.size+2):=LH (by simp);generalize ((w.alloc (.cells #[.int .i64 a,.int .i64 k,.int .i64 b,.int .i64 me,.int .i64 wait,.int .i64 ep,.int .u64 kids] 26)).alloc (.cells #[.int .i64 0,.int .i64 0,.int .i64 0,.int .i64 0,.int .i64 0,.int .u64 0,.int .i64 0,.int .i64 0,.int .u64 0,.int .u64 0,.bool false,.int .i64 0,.int .i64 0,.slice none 0 0] 37)) =W0 at M0 Z0⊢;have c0:=bC M0.out.p;have z0:=lB M0.out.p;go_wp2_with fail;refine(HN.out W0).mono ?_;rintro e w1 ⟨g,F,rfl,hs,hF,hb⟩;have M1:=LH (M0.out.below hb);have HF:Hid (∀q,F q→w.heap.size+2≤q):=LH fun q hq=>Nat.le_trans (by have:=Z0.out;omega) (hF q hq);have S1:=LH hs;clear hb c0 z0 hs hF;have c1:=bC M1.out.p;have z1:=lB M1.out.p;go_wp2_with fail;refine(HIs.out w1).mono ?_;rintro e w2 ⟨rfl,hb⟩;have M2:=LH (M1.out.below hb);have S2:=LH (S1.out.below hb);clear hb c1 z1;have c2:=bC M2.out.p;have z2:=lB M2.out.p;go_wp2_with fail;refine(HR2.out w2).mono ?_;rintro e w3 ⟨rfl,hb⟩;have M3:=LH (M2.out.below hb);have S3:=LH (S2.out.below hb);clear hb c2 z2;have c3:=bC M3.out.z;have f3:=bF M3.out.z;have z3:=lB M3.out.z;go_wp2_with fail;have Y3:Hid ((q14 w3 (w.heap.size+1) (.int .i64 (a:Int)) (.int .i64 k) (.int .i64 (b:Int)) (.int .i64 me) (.int .i64 wait) (.int .u64 kids) (.int .i64 ep) (.int .i64 0) (.int .u64 0) (.int .u64 ((withC 0 me:Nat) :Int)) (.bool false) (.int .i64 k) (.int .i64 (a:Int)) (.slice none 0 0)).heap[w.heap.size+1]? =some (.cells #[.int .i64 (a:Int),.int .i64 k,.int .i64 (b:Int),.int .i64 me,.int .i64 wait,.int .u64 kids,.int .i64 ep,.int .i64 0,.int .u64 0,.int .u64 ((withC 0 me:Nat) :Int),.bool false,.int .i64 k,.int .i64 (a:Int),.slice none 0 0] 37 (0,0))):=LH (store14 M3.out.z (.int .i64 (a:Int)) (.int .i64 k) (.int .i64 (b:Int)) (.int .i64 me) (.int .i64 wait) (.int .u64 kids) (.int .i64 ep) (.int .i64 0) (.int .u64 0) (.int .u64 ((withC 0 me:Nat) :Int)) (.bool false) (.int .i64 k) (.int .i64 (a:Int)) (.slice none 0 0));have S4:Hid (SensIn w g b a sn [] (q14 w3 (w.heap.size+1) (.int .i64 (a:Int)) (.int .i64 k) (.int .i64 (b:Int)) (.int .i64 me) (.int .i64 wait) (.int .u64 kids) (.int .i64 ep) (.int .i64 0) (.int .u64 0) (.int .u64 ((withC 0 me:Nat) :Int)) (.bool false) (.int .i64 k) (.int .i64 (a:Int)) (.slice none 0 0))):=LH ⟨F,S3.out.keep fun q hq=>store14_otm (by have:=HF.out q hq;omega) (.int .i64 (a:Int)) (.int .i64 k) (.int .i64 (b:Int)) (.int .i64 me) (.int .i64 wait) (.int .u64 kids) (.int .i64 ep) (.int .i64 0) (.int .u64 0) (.int .u64 ((withC 0 me:Nat) :Int)) (.bool false) (.int .i64 k) (.int .i64 (a:Int)) (.slice none 0 0),fun q hq=>by have:=HF.out q hq;omega,store14_below M3.out.b (by simp) (.int .i64 (a:Int)) (.int .i64 k) (.int .i64 (b:Int)) (.int .i64 me) (.int .i64 wait) (.int .u64 kids) (.int .i64 ep) (.int .i64 0) (.int .u64 0) (.int .u64 ((withC 0 me:Nat) :Int)) (.bool false) (.int .i64 k) (.int .i64 (a:Int)) (.slice none 0 0)⟩;clear c3 f3 z3;rw [q14e];generalize (q14 w3 (w.heap.size+1) (.int .i64 (a:Int)) (.int .i64 k) (.int .i64 (b:Int)) (.int .i64 me) (.int .i64 wait) (.int .u64 kids) (.int .i64 ep) (.int .i64 0) (.int .u64 0) (.int .u64 ((withC 0 me:Nat) :Int)) (.bool false) (.int .i64 k) (.int .i64 (a:Int)) (.slice none 0 0)) =W3 at Y3 S4⊢;have c4:=bC Y3.out;have f4:=bF Y3.out;have z4:=lB Y3.out
 try go_wp2_with fail
 exact bR (v:=.tuple #[.pointer (some ⟨g,0,none⟩),.agg #[.int .i64 (a:Int),.int .i64 k,.int .i64 (b:Int),.int .i64 me,.int .i64 wait,.int .u64 kids,.int .i64 ep,.int .i64 0,.int .u64 0,.int .u64 ((withC 0 me:Nat) :Int),.bool false,.int .i64 k,.int .i64 (a:Int),.slice none 0 0]]) (by simp only [results,Tryz.results8];go_simp) rfl (HE.out _ _ S4.out)
structure PlayS (w:World) (g K l px:Nat) (s:Sen) (r:List Nd) (F:Nat→Prop) (A:Option Addr) (c:Nat) (W:World) :Prop where
 sa:SensAt W g K l s r F
 fr: ∀b,F b→w.heap.size≤b
 ap: ¬F px
 hp:w.heap.size≤px
 x:W.heap[px]? =some (.cells (refC s A r.length c) 37 (0,0))
 sl:SlF F W A r
 al:Al l s r
 b:Below w.heap.size w W
structure PlayD (w:World) (g K l px pn:Nat) (s:Sen) (r:List Nd) (F:Nat→Prop) (A:Option Addr) (c:Nat) (s2:Sen) (r2:List Nd) (A2:Option Addr) (c2:Nat) (W:World) :Prop where
 p:PlayS w g K l px s r F A c W
 ap: ¬F pn
 ne:px≠pn
 y:W.heap[pn]? =some (.cells (refC s2 A2 r2.length c2) 37 (0,0))
 sl:SlF F W A2 r2
 al:Al l s2 r2
structure PlayE (w:World) (g K l px pn:Nat) (s:Sen) (n:Nat) (A:Option Addr) (c:Nat) (F:Nat→Prop) (s2:Sen) (r2:List Nd) (A2:Option Addr) (c2:Nat) (W:World) :Prop where
 sa:SensAt W g K l s2 r2 F
 fr: ∀b,F b→w.heap.size≤b
 ap: ¬F px
 hp:w.heap.size≤px
 x:W.heap[px]? =some (.cells (refC s A n c) 37 (0,0))
 y:W.heap[pn]? =some (.cells (refC s2 A2 r2.length c2) 37 (0,0))
 sl:SlF F W A2 r2
 al:Al l s2 r2
 b:Below w.heap.size w W
section
variable {w W W' W0 W1:World} {g K l px pn n:Nat} {s s2 s3:Sen} {r r2 r3:List Nd} {F:Nat→Prop} {A A2:Option Addr} {c c2:Nat}
theorem PlayS.below (h:PlayS w g K l px s r F A c W) (hb:Below W.heap.size W W') :PlayS w g K l px s r F A c W':=⟨h.sa.below hb,h.fr,h.ap,h.hp,bB h.x hb,h.sl.below hb,h.al,Below.then_ h.b hb⟩
theorem PlayS.first {s:Sen} (h:SensIn w g K l s [] W) (hb:Below w.heap.size w W) (a:Al l s []) : ∃F,PlayS w g K l W.heap.size s [] F none 0 (W.alloc (.cells (refC s none 0 0) 37)):=by
 obtain⟨F,h1,h2,h3⟩:=h;have al:=(Below.refl W.heap.size W).alloc (Nat.le_refl _) (.cells (refC s none 0 0) 37);exact⟨F,h1.below al,h2,fun hf=>by have:=h1.lt _ hf;omega,hb.size,heap_alloc_new W _,.nil,a,Below.then_ hb al⟩
theorem PlayD.of (h:PlayS w g K l px s r F A c W0) (hb:Below W0.heap.size W0 W1) (hs:SlF F W1 A2 r2) (a:Al l s2 r2) :
 PlayD w g K l px W1.heap.size s r F A c s2 r2 A2 c2 (W1.alloc (.cells (refC s2 A2 r2.length c2) 37)):=by
 have al:=(Below.refl W1.heap.size W1).alloc (Nat.le_refl _) (.cells (refC s2 A2 r2.length c2) 37);have h0:=hb.size;exact⟨(h.below hb).below al,fun hf=>by have:=h.sa.lt _ hf;omega,by have:=lB h.x;omega,heap_alloc_new W1 _,hs.below al,a⟩
theorem PlayD.do_ (h:PlayD w g K l px pn s r F A c s2 r2 A2 c2 W) (ht:SensTo W g K l s2 r2 F W') : ∃F',PlayE w g K l px pn s r.length A c F' s2 r2 A2 c2 W':=by
 obtain⟨F',k1,k2,k3⟩:=ht;have hx:=lB h.p.x;have hy:=lB h.y;refine⟨F',k1,fun b hb=> ?_,fun hf=> ?_,h.p.hp,?_,?_,h.sl.turn k2 k3,h.al,h.p.b.trans (k2.below h.p.fr h.p.b.size)⟩
 ·rcases k3 b hb with hb|hb
  ·exact h.p.fr b hb
  ·exact Nat.le_trans h.p.b.size hb
 ·rcases k3 _ hf with hf|hf
  ·exact h.p.ap hf
  ·omega
 ·exact(k2.block px hx h.p.ap).trans h.p.x
 ·exact(k2.block pn hy h.ap).trans h.y
theorem PlayE.set (h:PlayE w g K l px pn s n A c F s2 r2 A2 c2 W) :PlayS w g K l px s2 r2 F A2 c2 (q14 W px (.int .i64 s2.l) (.int .i64 s2.k) (.int .i64 s2.kd) (.int .i64 s2.p.me) (.int .i64 s2.p.wait) (.int .u64 s2.p.kids) (.int .i64 s2.ep) (.int .i64 s2.ti) (.int .u64 s2.heard) (.int .u64 s2.cover) (.bool s2.sent) (.int .i64 s2.k) (.int .i64 s2.l) (.slice A2 r2.length c2)):=by
 have ot: ∀q,q≠px→(q14 W px (.int .i64 s2.l) (.int .i64 s2.k) (.int .i64 s2.kd) (.int .i64 s2.p.me) (.int .i64 s2.p.wait) (.int .u64 s2.p.kids) (.int .i64 s2.ep) (.int .i64 s2.ti) (.int .u64 s2.heard) (.int .u64 s2.cover) (.bool s2.sent) (.int .i64 s2.k) (.int .i64 s2.l) (.slice A2 r2.length c2)).heap[q]? =W.heap[q]? :=fun q hq=>store14_other hq (.int .i64 s2.l) (.int .i64 s2.k) (.int .i64 s2.kd) (.int .i64 s2.p.me) (.int .i64 s2.p.wait) (.int .u64 s2.p.kids) (.int .i64 s2.ep) (.int .i64 s2.ti) (.int .u64 s2.heard) (.int .u64 s2.cover) (.bool s2.sent) (.int .i64 s2.k) (.int .i64 s2.l) (.slice A2 r2.length c2)
 have Y: (q14 W px (.int .i64 s2.l) (.int .i64 s2.k) (.int .i64 s2.kd) (.int .i64 s2.p.me) (.int .i64 s2.p.wait) (.int .u64 s2.p.kids) (.int .i64 s2.ep) (.int .i64 s2.ti) (.int .u64 s2.heard) (.int .u64 s2.cover) (.bool s2.sent) (.int .i64 s2.k) (.int .i64 s2.l) (.slice A2 r2.length c2)).heap[px]? =some (.cells #[.int .i64 s2.l,.int .i64 s2.k,.int .i64 s2.kd,.int .i64 s2.p.me,.int .i64 s2.p.wait,.int .u64 s2.p.kids,.int .i64 s2.ep,.int .i64 s2.ti,.int .u64 s2.heard,.int .u64 s2.cover,.bool s2.sent,.int .i64 s2.k,.int .i64 s2.l,.slice A2 r2.length c2] 37 (0,0)):=by
  have hx:=h.x;unfold refC at hx;exact store14 hx (.int .i64 s2.l) (.int .i64 s2.k) (.int .i64 s2.kd) (.int .i64 s2.p.me) (.int .i64 s2.p.wait) (.int .u64 s2.p.kids) (.int .i64 s2.ep) (.int .i64 s2.ti) (.int .u64 s2.heard) (.int .u64 s2.cover) (.bool s2.sent) (.int .i64 s2.k) (.int .i64 s2.l) (.slice A2 r2.length c2)
 have B:Below w.heap.size w (q14 W px (.int .i64 s2.l) (.int .i64 s2.k) (.int .i64 s2.kd) (.int .i64 s2.p.me) (.int .i64 s2.p.wait) (.int .u64 s2.p.kids) (.int .i64 s2.ep) (.int .i64 s2.ti) (.int .u64 s2.heard) (.int .u64 s2.cover) (.bool s2.sent) (.int .i64 s2.k) (.int .i64 s2.l) (.slice A2 r2.length c2)):=store14_below h.b h.hp (.int .i64 s2.l) (.int .i64 s2.k) (.int .i64 s2.kd) (.int .i64 s2.p.me) (.int .i64 s2.p.wait) (.int .u64 s2.p.kids) (.int .i64 s2.ep) (.int .i64 s2.ti) (.int .u64 s2.heard) (.int .u64 s2.cover) (.bool s2.sent) (.int .i64 s2.k) (.int .i64 s2.l) (.slice A2 r2.length c2)
 try rw [q14e]
 generalize (q14 W px (.int .i64 s2.l) (.int .i64 s2.k) (.int .i64 s2.kd) (.int .i64 s2.p.me) (.int .i64 s2.p.wait) (.int .u64 s2.p.kids) (.int .i64 s2.ep) (.int .i64 s2.ti) (.int .u64 s2.heard) (.int .u64 s2.cover) (.bool s2.sent) (.int .i64 s2.k) (.int .i64 s2.l) (.slice A2 r2.length c2)) =W' at ot Y B⊢;refine⟨h.sa.keep fun b hb=>ot b (fun he=>h.ap (he ▸ hb)),h.fr,h.ap,h.hp,Y,?_,h.al,B⟩;rcases h.sl with hl| ⟨b,off,hA,hT,hc⟩
 ·exact .inl hl
 ·have hne:b≠px:=by
   rintro rfl;obtain⟨⟨_,_,h1⟩,_⟩:=hT;rw [h.x] at h1
   cases h1
  have hb:=ot b hne;obtain⟨⟨cs,fr,h1⟩,h2⟩:=hT;exact .inr ⟨b,off,hA,⟨⟨cs,fr,hb.trans h1⟩,h2⟩,fun i x hi j u hj=>(World.cell?_of_block hb).trans (hc i x hi j u hj)⟩
theorem PlayS.like (h:PlayS w g K l px s r F A c W) :Calls Tryz.prog 11 #[.pointer (some ⟨g,0,none⟩),refV s A r.length c] W fun e w'=>e=.returned (.bool true)∧Below W.heap.size W w':=
 law31_like W g K l s r F A c h.sa h.sl.sl h.al.ok (by have:=h.al.len;omega)
end
theorem ox_keep {w W:World} {o:OpX} (h:OxOk w o) (hb:Below w.heap.size w W) :Sl W W.heap.size encO o.A o.b.ops:=h.1.keep hb.size fun p hp=>hb.cell hp
end Go.Proofs.YtandlhihcnadmaaGreat
