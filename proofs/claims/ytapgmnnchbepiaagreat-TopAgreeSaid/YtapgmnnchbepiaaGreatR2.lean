/-
  Texts of this proof, one behind the other: Sorted, Probe3, Pool, Pool2, Each, MemIn, Light, Tail, Digest, Rank, RefLoad.
-/
import Derived.WalkSpells
import Derived.Deep.RegionHeld3
import Derived.Deep.RegionLaw
import Derived.Deep.DrawnRows
import Derived.RangeFuncNested
import Derived.RangeFuncBound
import Derived.RangeFuncCalls
import Derived.RangeFuncLeaves
import Derived.RangeFuncWrites
import Derived.Shelf.Abstract
import Derived.Shelf.RegionOpen
import Derived.OwnWalkIn
import Derived.TacticsInMore
import Derived.LoopNIn
import Derived.LoopIn
import Derived.StillTail
import Derived.Test.YtapgmnnchbepiaaGreatR1
set_option linter.unusedVariables false
set_option linter.unusedSimpArgs false
set_option maxRecDepth 100000
set_option maxHeartbeats 16000000
namespace Go.Proofs.YtapgmnnchbepiaaGreat
open Go.ChangeShapes Go.WideShapes Go.ChangeAt Go.RowKit
section
attribute [local go_sem ↓] Go.wp_at_zero Go.wp_at_succ
def leN (a b:Nd) :Bool:= !decide (b.1<a.1)
def msort (l:List Nd) :List Nd:=if h:l.length<2 then l else List.merge (msort (l.take (l.length / 2))) (msort (l.drop (l.length / 2))) leN
termination_by l.length
decreasing_by
 ·simp;omega
 ·simp;omega
theorem msort_perm (l:List Nd) : (msort l).Perm l:=by
 induction hn:l.length using Nat.strongRecOn generalizing l with
 |_ n ih=>
  rw [msort]
  split
  ·exact .refl _
  ·rename_i h
   refine(List.merge_perm_append leN).trans (((ih _ ?_ _ rfl).append (ih _ ?_ _ rfl)).trans ?_)
   ·simp;omega
   ·simp;omega
   ·rw [List.take_append_drop]
theorem msort_sorted (l:List Nd) : (msort l).Pairwise fun a b=>a.1≤b.1:=by
 induction hn:l.length using Nat.strongRecOn generalizing l with
 |_ n ih=>
  rw [msort]
  split
  ·rename_i h
   rcases l with _| ⟨x,_| ⟨y,l⟩⟩
   ·exact .nil
   ·exact List.pairwise_singleton _ _
   ·simp at h;omega
  ·rename_i h
   have h1:=ih _ (by simp;omega) (l.take (l.length / 2)) rfl;have h2:=ih _ (by simp;omega) (l.drop (l.length / 2)) rfl;have:=List.pairwise_merge (le:=leN) (fun a b c h1 h2=>by simp [leN] at*;omega) (fun a b=>by simp [leN];omega) _ _ (h1.imp fun {a b} h=>show leN a b=true by simpa [leN] using h) (h2.imp fun {a b} h=>show leN a b=true by simpa [leN] using h);exact this.imp fun h=>by simpa [leN] using h
theorem msort_len (l:List Nd) : (msort l).length=l.length:=(msort_perm l).length_eq
theorem msort_roll {l r:List Nd} (h:l.Perm r) (hr:Roll r) :msort l=r:=by
 refine((msort_perm l).trans h).eq_of_pairwise (le:=fun a b:Nd=>a.1≤b.1) ?_ (msort_sorted l) (hr.1.imp fun h=>by omega);intro a b ha hb h1 h2;have ha':a∈r:=((msort_perm l).trans h).mem_iff.1 ha;have e1:a.1=b.1:=by omega
 have:=getR_mem hr ha';have:=getR_mem hr hb;exact Prod.ext e1 (by rw [e1] at*;omega)
theorem roll_ahead (w:World) (x y:Nd) :Calls Tryz.prog 236 #[.agg #[.int .i64 x.1,.int .i64 x.2],.agg #[.int .i64 y.1,.int .i64 y.2]] w fun e w'=>e=.returned (.bool (decide (x.1<y.1)))∧Below w.heap.size w w':=by
 go_enter Tryz.func236,Tryz.ntmps236
 go_wp2_with fail;go_ret;exact⟨rfl,bE⟩
def OwnPost {α:Type} {size:Nat} (e:TypeId) (E:Enc α size) (l:List α) (w:World) (en:Ending) (w':World) :Prop:=∃v,en=.returned v∧Own w' w.heap.size e E v l∧Below w.heap.size w w'
@[go_sem] theorem run_eqN_nil (w:World) (A:Option Addr) (n c:Nat) : (binOp .eql 24 (.slice A n c) (.slice none 0 0)).run Tryz.prog w=.ok (.bool A.isNone) w:=Lib.run_eql_slice_nil w _ 77 A n c 0 0 Tryz.underlying24
theorem clone_N (w:World) (A:Option Addr) (cap:Nat) (l:List Nd) (hS:Sl w w.heap.size encN A l) (hn:l.length≤67108864) :
 Calls Tryz.prog 253 #[.slice A l.length cap] w (OwnPost 77 encN l w):=by
 rcases A with _|a
 ·have h0:l= []:=by
   rcases hS with h| ⟨b,off,hA,_⟩
   ·exact h
   ·cases hA
  subst h0
  go_enter Tryz.func253,Tryz.ntmps253
  go_wp2_with fail;go_ret;exact⟨_,rfl,Own.nil _ _ _ _,bE⟩
 ·have HS:=LH hS
  clear hS
  go_enter Tryz.func253,Tryz.ntmps253
  go_wp2_with ((at_builtin;refine wpList_app tyN rfl _ _ rfl encN w.heap.size (.slice (some ⟨w.heap.size,0,none⟩) 0 0) [] rfl ?ho (some a) cap l w.heap.size rfl ?hs ?c1 ?c2 ?c3 ?c4))
  case ho=>exact .inr ⟨w.heap.size,0,0, #[],rfl,Nat.le_refl _,heap_alloc_new w _,Nat.le_refl _,by simp,by simp,fun j u hj=>by simp at hj⟩
  case hs=>exact HS.out.keep (Nat.le_refl _) fun p hp=>((Below.refl w.heap.size w).alloc (Nat.le_refl _) _).cell hp
  case c1=>simp;omega
  case c2=>simp [maxLen];omega
  case c3=>simp
  case c4=>
   intro v' w1 ho1 _ _ hb1 _;have B1:Below w.heap.size w w1:=((Below.refl w.heap.size w).alloc (Nat.le_refl _) _).trans hb1;have HO1:=LH (show Own w1 w.heap.size 77 encN v' l by simpa using ho1);clear ho1;go_wp2_with fail;go_ret;exact⟨_,rfl,HO1.out,B1⟩
def Rd {α:Type} {size:Nat} (w:World) (E:Enc α size) (v:Value) (l:List α) :Prop:=∃A cap,v=.slice A l.length cap∧l.length≤cap∧cap≤maxLen∧Sl w w.heap.size E A l
section
variable {α:Type} {size base e:Nat} {w w':World} {E:Enc α size} {v:Value} {l:List α}
theorem Own.rd (h:Own w base e E v l) :Rd w E v l:=by
 obtain⟨A,cap,hv,h1,h2,h3,_⟩:=h.form;exact⟨A,cap,hv,h1,h2,h3⟩
end
def lenV:Value→Nat
 | .slice _ n _=>n
 |_=>0
def RdB {α:Type} {size:Nat} (w:World) (B:Nat) (E:Enc α size) (v:Value) (l:List α) :Prop:=∃A cap,v=.slice A l.length cap∧l.length≤cap∧cap≤maxLen∧Sl w B E A l
theorem RdB.below {α:Type} {size B:Nat} {w w':World} {E:Enc α size} {v:Value} {l:List α} (h:RdB w B E v l) (hb:Below B w w') :RdB w' B E v l:=by
 obtain⟨A,cap,hv,h1,h2,h3⟩:=h;exact⟨A,cap,hv,h1,h2,h3.below hb⟩
theorem RdB.cons {B:Nat} {w:World} {v:Value} {x:Nd} {l:List Nd} (h:RdB w B encN v (x :: l)) : ∃b off cap,v=.slice (some ⟨b,off,none⟩) (l.length+1) cap∧l.length+1≤cap∧cap≤maxLen∧b<B∧
 w.cell? ⟨b,off,none⟩ =some (.int .i64 x.1)∧w.cell? ⟨b,off+1,none⟩ =some (.int .i64 x.2)∧(cap≠1→RdB w B encN (.slice (some ⟨b,off+2,none⟩) l.length (cap - 1)) l)∧(cap=1→RdB w B encN (.slice (some ⟨b,off,none⟩) 0 0) l∧l= []):=by
 obtain⟨A,cap,rfl,h1,h2,h3⟩:=h;rcases h3 with h3| ⟨b,off,rfl,hb,hc⟩
 ·cases h3
 ·have c0:=hc 0 x rfl 0 _ rfl
  have c1:=hc 0 x rfl 1 _ rfl;simp only [Nat.zero_mul,Nat.add_zero] at c0 c1;simp only [List.length_cons] at h1;refine⟨b,off,cap,rfl,h1,h2,hb,c0,c1,fun hne=>⟨_,_,rfl,by omega,by omega,?_⟩,fun he=> ?_⟩
  ·have:=Sl.drop (k:=1) (show Sl w B encN (some ⟨b,off,none⟩) (x :: l) from .inr ⟨b,off,rfl,hb,hc⟩)
   simpa using this
  ·have:l= []:=List.eq_nil_of_length_eq_zero (by omega)
   subst this;exact⟨⟨_,_,rfl,by simp,by simp,.nil⟩,rfl⟩
def MergeInv (w2:World) (all:List Nd) (n:Nat) (a b o:Value) (wr:World) :Prop:=∃la lb lo,RdB wr w2.heap.size encN a la∧RdB wr w2.heap.size encN b lb∧Own wr w2.heap.size 77 encN o lo∧lo ++ List.merge la lb leN=all∧lo.length+ (la.length+lb.length) =n∧Below w2.heap.size w2 wr
theorem merge_cons (x y:Nd) (l r:List Nd) :List.merge (x :: l) (y :: r) leN=if y.1<x.1 then y :: List.merge (x :: l) r leN else x :: List.merge l (y :: r) leN:=by
 rw [List.merge];by_cases h:y.1<x.1
 ·simp [leN,h]
 ·simp [leN,h]
theorem roll_sorted (n:Nat) : ∀(w:World) (A:Option Addr) (cap:Nat) (l:List Nd),Sl w w.heap.size encN A l→l.length≤cap→cap≤maxLen→l.length≤n→n≤67108864→
 Calls Tryz.prog 235 #[.slice A l.length cap,.func (.func 236) #[] #[]] w (OwnPost 77 encN (msort l) w):=by
 induction n using Nat.strongRecOn with
 |_ n ih=>
  intro w A cap l hS hc hcm hl hn;by_cases h2:l.length<2
  ·have h2': (l.length:Int) <2:=by omega
   have e1:msort l=l:=by rw [msort,dif_pos h2]
   rw [e1];have HC:=LH (clone_N · A cap l · (by omega));have HS:=LH hS;clear e1 hS ih
   go_enter Tryz.func235,Tryz.ntmps235
   go_wp2_with fail;refine(HC.out _ HS.out).mono ?_;rintro e w1 ⟨v,rfl,ho,hb⟩;go_wp2_with fail;go_ret;exact⟨_,rfl,ho,hb⟩
  ·have h2': ¬(l.length:Int) <2:=by omega
   have e1:msort l=List.merge (msort (l.take (l.length / 2))) (msort (l.drop (l.length / 2))) leN:=by conv=>lhs;rw [msort,dif_neg h2]
   rw [e1]
   obtain⟨b,off,rfl,hb,hcl⟩ : ∃b off,A=some ⟨b,off,none⟩∧b<w.heap.size∧True:=by
    rcases hS with h| ⟨b,off,hA,hb,_⟩
    ·subst h;simp at h2
    ·exact⟨b,off,hA,hb,trivial⟩
   have HS:=LH hS;have q1: (0:Int)≤(l.length:Int) / 2:=by omega
   have q2: (l.length:Int) / 2≤(cap:Int):=by omega
   have q3: (l.length:Int) / 2≤(l.length:Int):=by omega
   have q4: ((l.length:Int) / 2).toNat=l.length / 2:=by omega
   have l1: (l.take (l.length / 2)).length=l.length / 2:=by simp;omega
   have l2: (l.drop (l.length / 2)).length=l.length - l.length / 2:=by simp
   have HA:Hid (∀W:World,Sl W W.heap.size encN (some ⟨b,off,none⟩) (l.take (l.length / 2))→Calls Tryz.prog 235 #[.slice (some ⟨b,off,none⟩) (l.length / 2) cap,.func (.func 236) #[] #[]] W (OwnPost 77 encN (msort (l.take (l.length / 2))) W)):=
    LH fun W hW=>by have:=ih (l.length / 2) (by omega) W _ cap _ hW (by omega) hcm (by omega) (by omega);rwa [l1] at this
   have HB:Hid (∀W:World,Sl W W.heap.size encN (some ⟨b,off+l.length / 2*2,none⟩) (l.drop (l.length / 2))→Calls Tryz.prog 235 #[.slice (some ⟨b,off+l.length / 2*2,none⟩) (l.length - l.length / 2) (cap - l.length / 2),.func (.func 236) #[] #[]] W (OwnPost 77 encN (msort (l.drop (l.length / 2))) W)):=
    LH fun W hW=>by have:=ih (l.length - l.length / 2) (by omega) W _ (cap - l.length / 2) _ hW (by omega) (by omega) (by omega) (by omega);rwa [l2] at this
   have SA:Hid (Sl w.drew w.drew.heap.size encN (some ⟨b,off,none⟩) (l.take (l.length / 2))):=LH (hS.take (l.length / 2));have SB:Hid (Sl w.drew w.drew.heap.size encN (some ⟨b,off+l.length / 2*2,none⟩) (l.drop (l.length / 2))):=LH (hS.drop (l.length / 2));have hml:=msort_len (l.take (l.length / 2));have hml2:=msort_len (l.drop (l.length / 2));obtain⟨la,hla⟩ : ∃la,la=msort (l.take (l.length / 2)):=⟨_,rfl⟩;obtain⟨lb,hlb⟩ : ∃lb,lb=msort (l.drop (l.length / 2)):=⟨_,rfl⟩;rw [←hla] at HA⊢hml;rw [←hlb] at HB⊢hml2;have hab:la.length+lb.length=l.length:=by omega
   clear e1 hS hcl ih l1 l2 hla hlb hml hml2
   go_enter Tryz.func235,Tryz.ntmps235
   go_wp2_with fail
   go_region_held3 (fun w'=>True) (trivial)
    (first
      | ((with_reducible refine(HA.out _ SA.out).mono ?_)
         rintro e w1 ⟨va,rfl,oa,b1⟩;have OA:=LH oa;have B1:=LH b1;clear oa b1)
      | ((with_reducible refine(HB.out _ (SB.out.keep B1.out.size fun p hp=>B1.out.cell hp)).mono ?_)
         rintro e w2 ⟨vb,rfl,ob,b2⟩;have OB:=LH ob;have B2:=LH b2;clear ob b2))
   have HM:Hid (MergeInv w2 (List.merge la lb leN) l.length va vb (.slice none 0 0) w2):=⟨la,lb, [],by
    obtain⟨A,cap,hv,h1,h2,h3,_⟩:=(OA.out.below B2.out).form;exact⟨A,cap,hv,h1,h2,h3⟩,by
    obtain⟨A,cap,hv,h1,h2,h3,_⟩:=OB.out.form;exact⟨A,cap,hv,h1,h2,h3⟩,Own.nil _ _ _ _,rfl,by simp;omega,Below.refl _ _⟩
   have HB2:Hid (Below w.heap.size w w2):=(Below.refl w.heap.size w).drew.trans (B1.out.trans (B2.out.mono B1.out.size));clear HA HB SA SB OA OB B1 B2;go_wp2_with fail
   go_loopw [6,7,8] (fun a b o wr=>MergeInv w2 (List.merge la lb leN) l.length a b o wr) (fun a b _ _=>lenV a+lenV b)
   case atStart=>exact HM.out
   case round=>
    obtain⟨la',lb',lo,ra,rb,ho,hall,hlen,hB⟩:=hrel;have HB:=LH hB;have HO:=LH ho;have HE:=LH hall;clear hB ho hall;rcases la' with _| ⟨x,la'⟩
    ·obtain⟨A1,c1,rfl,a1,a2,a3⟩:=ra
     obtain⟨A2,c2,rfl,b1,b2,b3⟩:=rb;have HSA:=LH a3;have HSB:=LH b3;have s2:=HB.out.size;have zw:=HB2.out.size;have HLo:lo.length+ (([] :List Nd).length+lb'.length)≤67108864:=by omega
     have HF:=LH (show lo ++ ([] :List Nd) ++ lb'=List.merge la lb leN by rw [←HE.out];simp);clear a3 b3;go_wp2_with ((at_builtin;refine wpList_app tyN rfl _ _ rfl encN w2.heap.size u8 lo rfl HO.out A1 c1 (([] :List Nd)) w2.heap.size rfl HSA.out ?c1 ?c2 ?c3 ?c4))
     case c1=>omega
     case c2=>unfold maxLen;omega
     case c3=>exact s2
     case c4=>
      intro v4 w4 ho4 _ _ hb4;try intro _
      have O4:=LH ho4;have SB4:=LH (HSB.out.below hb4);have B4:=LH (HB.out.trans hb4);have s4:=B4.out.size;have HL4: (lo ++ ([] :List Nd)).length+lb'.length≤67108864:=by rw [List.length_append];omega
      clear ho4 hb4;go_wp2_with ((at_builtin;refine wpList_app tyN rfl _ _ rfl encN w2.heap.size v4 _ rfl O4.out A2 c2 (lb') w2.heap.size rfl SB4.out ?d1 ?d2 ?d3 ?d4))
      case d1=>omega
      case d2=>unfold maxLen;omega
      case d3=>exact s4
      case d4=>
       intro v5 w5 ho5 _ _ hb5;try intro _
       have ho5:Own w5 w2.heap.size 77 encN v5 (List.merge la lb leN):=by have:=HF.out;simp only [List.append_nil] at this ho5;rw [←this];exact ho5
       have O5:=LH ho5;have B5:=LH (B4.out.trans hb5);clear ho5 hb5;go_wp2_with fail;go_ret;exact⟨_,rfl,O5.out.base_le zw,HB2.out.trans (B5.out.mono zw)⟩
    ·rcases lb' with _| ⟨y,lb'⟩
     ·obtain⟨A1,c1,rfl,a1,a2,a3⟩:=ra
      obtain⟨A2,c2,rfl,b1,b2,b3⟩:=rb;have HSA:=LH a3;have HSB:=LH b3;have s2:=HB.out.size;have zw:=HB2.out.size;have HLo:lo.length+ ((x :: la').length+ ([] :List Nd).length)≤67108864:=by omega
      have HF:=LH (show lo ++ (x :: la') ++ ([] :List Nd) =List.merge la lb leN by rw [←HE.out];simp);clear a3 b3;have n1: (0:Int) < (((x :: la').length:Nat) :Int):=by simp only [List.length_cons];omega
      go_wp2_with ((at_builtin;refine wpList_app tyN rfl _ _ rfl encN w2.heap.size u8 lo rfl HO.out A1 c1 ((x :: la')) w2.heap.size rfl HSA.out ?c1 ?c2 ?c3 ?c4))
      case c1=>omega
      case c2=>unfold maxLen;omega
      case c3=>exact s2
      case c4=>
       intro v4 w4 ho4 _ _ hb4;try intro _
       have O4:=LH ho4;have SB4:=LH (HSB.out.below hb4);have B4:=LH (HB.out.trans hb4);have s4:=B4.out.size;have HL4: (lo ++ (x :: la')).length+ ([] :List Nd).length≤67108864:=by rw [List.length_append];omega
       clear ho4 hb4;go_wp2_with ((at_builtin;refine wpList_app tyN rfl _ _ rfl encN w2.heap.size v4 _ rfl O4.out A2 c2 (([] :List Nd)) w2.heap.size rfl SB4.out ?d1 ?d2 ?d3 ?d4))
       case d1=>omega
       case d2=>unfold maxLen;omega
       case d3=>exact s4
       case d4=>
        intro v5 w5 ho5 _ _ hb5;try intro _
        have ho5:Own w5 w2.heap.size 77 encN v5 (List.merge la lb leN):=by have:=HF.out;simp only [List.append_nil] at this ho5;rw [←this];exact ho5
        have O5:=LH ho5;have B5:=LH (B4.out.trans hb5);clear ho5 hb5;go_wp2_with fail;go_ret;exact⟨_,rfl,O5.out.base_le zw,HB2.out.trans (B5.out.mono zw)⟩
     ·obtain⟨ba,oa,ca,rfl,a1,a2,a3,a4,a5,a6,a7⟩:=ra.cons
      obtain⟨bb,ob,cb,rfl,b1,b2,b3,b4,b5,b6,b7⟩:=rb.cons;have HRA:=LH ra;have HRB:=LH rb;have HA6:=LH (And.intro a6 a7);have HB6:=LH (And.intro b6 b7);have n1: (0:Int) < ((la'.length+1:Nat) :Int):=by omega
      have n2: (0:Int) < ((lb'.length+1:Nat) :Int):=by omega
      have zb0:bb<wr.heap.size:=by have:=HB.out.size;omega
      have za0:ba<wr.heap.size:=by have:=HB.out.size;omega
      clear ra rb a6 a7 b6 b7;go_wp2_with fail;refine rX (by kernel_rfl) (by kernel_rfl) ?_
      repeat (go_big_quiet_step ((go_at_call 236;exact quiet_ext (roll_ahead _ y x))))
      refine wpQuiet_nil ?_;intro w3 hb3;replace hb3:=bX hb3;have s2:=HB.out.size;have s3:=hb3.size;have B3:Below w2.heap.size w2 w3:=HB.out.trans (hb3.mono s2);have O3:=LH (HO.out.below hb3);have e4:=(hb3.cell (p:=⟨bb,ob,none⟩) (by simp only;omega)).trans b4;have e5:=(hb3.cell (p:=⟨bb,ob+1,none⟩) (by simp only;omega)).trans b5;have d4:=(hb3.cell (p:=⟨ba,oa,none⟩) (by simp only;omega)).trans a4;have d5:=(hb3.cell (p:=⟨ba,oa+1,none⟩) (by simp only;omega)).trans a5;have zb:bb<w3.heap.size:=by omega
      have za:ba<w3.heap.size:=by omega
      have RA3:=LH (HRA.out.below (hb3.mono s2));have RB3:=LH (HRB.out.below (hb3.mono s2));have HLo:lo.length≤67108864:=by simp only [List.length_cons] at hlen;omega
      clear a4 a5 b4 b5 HRA HRB;have hBb3:Below w2.heap.size wr w3:=hb3.mono s2;have HM:=LH (merge_cons x y la' lb');by_cases hyx:y.1<x.1
      ·have hyx':decide (y.1<x.1) =true:=by simpa using hyx
       by_cases hcb:cb=1
       ·subst hcb
        have R0:=LH (HB6.out.2 rfl).1;have hnil:=(HB6.out.2 rfl).2;subst hnil;simp only [List.length_nil,Nat.zero_add];go_wp2_with fail
        go_region_held3 (fun w'=>w'.cell? ⟨bb,ob,none⟩ =some (.int .i64 y.1)∧w'.cell? ⟨bb,ob+1,none⟩ =some (.int .i64 y.2)) (first| (simp [*,go_sem];done))
         ((refine step_app tyN (by rfl) _ _ (by rfl) encN w2.heap.size _ _ (by rfl) (O3.out.alloc _).drew (some ⟨w3.heap.size,0,none⟩) 1 [y] _ (by rfl) (sl_lit w3 encN [y] _ w3.heap.size rfl).drew (by simp;omega) (by simp [maxLen];omega) (by simp;omega) ?_;intro v' w4 ho4 _ _ hb4 _;have c40:=(hb4.cell (p:=⟨bb,ob,none⟩) (by simp only;omega)).trans (by simp [go_sem,e4,zb] :_=some (Value.int .i64 y.1));have c41:=(hb4.cell (p:=⟨bb,ob+1,none⟩) (by simp only;omega)).trans (by simp [go_sem,e5,zb] :_=some (Value.int .i64 y.2))))
        have B4:Below w2.heap.size w3 w4:=((Below.refl w2.heap.size w3).alloc (by omega) _).drew.trans hb4;have O4:=LH ho4;have R4:=LH (R0.out.below (hBb3.trans B4));have Q4:=LH (RA3.out.below B4);have E4:=LH (B3.trans B4);clear ho4 hb4 c40 c41 B4;go_wp2_with fail;go_roundw
        case rel=>exact⟨_,_,_,Q4.out,R4.out,O4.out,by rw [←HE.out,HM.out,if_pos hyx,List.append_assoc];rfl,by simp only [List.length_append,List.length_cons,List.length_nil] at hlen⊢;omega,E4.out⟩
        case measure=>simp [lenV]
       ·have m1: (1:Int)≤((lb'.length:Int) +1):=by omega
        have m2: (1:Int)≤(cb:Int):=by omega
        have m3: ((lb'.length:Int) +1)≤(cb:Int):=by omega
        go_wp2_with fail
        go_region_held3 (fun w'=>w'.cell? ⟨bb,ob,none⟩ =some (.int .i64 y.1)∧w'.cell? ⟨bb,ob+1,none⟩ =some (.int .i64 y.2)) (first| (simp [*,go_sem];done))
         ((refine step_app tyN (by rfl) _ _ (by rfl) encN w2.heap.size _ _ (by rfl) (O3.out.alloc _).drew (some ⟨w3.heap.size,0,none⟩) 1 [y] _ (by rfl) (sl_lit w3 encN [y] _ w3.heap.size rfl).drew (by simp;omega) (by simp [maxLen];omega) (by simp;omega) ?_;intro v' w4 ho4 _ _ hb4 _;have c40:=(hb4.cell (p:=⟨bb,ob,none⟩) (by simp only;omega)).trans (by simp [go_sem,e4,zb] :_=some (Value.int .i64 y.1));have c41:=(hb4.cell (p:=⟨bb,ob+1,none⟩) (by simp only;omega)).trans (by simp [go_sem,e5,zb] :_=some (Value.int .i64 y.2))))
        have B4:Below w2.heap.size w3 w4:=((Below.refl w2.heap.size w3).alloc (by omega) _).drew.trans hb4;have O4:=LH ho4;have R4:=LH ((HB6.out.1 hcb).below (hBb3.trans B4));have Q4:=LH (RA3.out.below B4);have E4:=LH (B3.trans B4);clear ho4 hb4 c40 c41 B4;go_wp2_with fail;go_roundw
        case rel=>exact⟨_,_,_,Q4.out,R4.out,O4.out,by rw [←HE.out,HM.out,if_pos hyx,List.append_assoc];rfl,by simp only [List.length_append,List.length_cons,List.length_nil] at hlen⊢;omega,E4.out⟩
        case measure=>simp [lenV] <;> omega
      ·have hyx':decide (y.1<x.1) =false:=by simpa using hyx
       by_cases hca:ca=1
       ·subst hca
        have R0:=LH (HA6.out.2 rfl).1;have hnil:=(HA6.out.2 rfl).2;subst hnil;simp only [List.length_nil,Nat.zero_add];go_wp2_with fail
        go_region_held3 (fun w'=>w'.cell? ⟨ba,oa,none⟩ =some (.int .i64 x.1)∧w'.cell? ⟨ba,oa+1,none⟩ =some (.int .i64 x.2)) (first| (simp [*,go_sem];done))
         ((refine step_app tyN (by rfl) _ _ (by rfl) encN w2.heap.size _ _ (by rfl) (O3.out.alloc _).drew (some ⟨w3.heap.size,0,none⟩) 1 [x] _ (by rfl) (sl_lit w3 encN [x] _ w3.heap.size rfl).drew (by simp;omega) (by simp [maxLen];omega) (by simp;omega) ?_;intro v' w4 ho4 _ _ hb4 _;have c40:=(hb4.cell (p:=⟨ba,oa,none⟩) (by simp only;omega)).trans (by simp [go_sem,d4,za] :_=some (Value.int .i64 x.1));have c41:=(hb4.cell (p:=⟨ba,oa+1,none⟩) (by simp only;omega)).trans (by simp [go_sem,d5,za] :_=some (Value.int .i64 x.2))))
        have B4:Below w2.heap.size w3 w4:=((Below.refl w2.heap.size w3).alloc (by omega) _).drew.trans hb4;have O4:=LH ho4;have R4:=LH (R0.out.below (hBb3.trans B4));have Q4:=LH (RB3.out.below B4);have E4:=LH (B3.trans B4);clear ho4 hb4 c40 c41 B4;go_wp2_with fail;go_roundw
        case rel=>exact⟨_,_,_,R4.out,Q4.out,O4.out,by rw [←HE.out,HM.out,if_neg (by omega),List.append_assoc];rfl,by simp only [List.length_append,List.length_cons,List.length_nil] at hlen⊢;omega,E4.out⟩
        case measure=>simp [lenV]
       ·have m1: (1:Int)≤((la'.length:Int) +1):=by omega
        have m2: (1:Int)≤(ca:Int):=by omega
        have m3: ((la'.length:Int) +1)≤(ca:Int):=by omega
        go_wp2_with fail
        go_region_held3 (fun w'=>w'.cell? ⟨ba,oa,none⟩ =some (.int .i64 x.1)∧w'.cell? ⟨ba,oa+1,none⟩ =some (.int .i64 x.2)) (first| (simp [*,go_sem];done))
         ((refine step_app tyN (by rfl) _ _ (by rfl) encN w2.heap.size _ _ (by rfl) (O3.out.alloc _).drew (some ⟨w3.heap.size,0,none⟩) 1 [x] _ (by rfl) (sl_lit w3 encN [x] _ w3.heap.size rfl).drew (by simp;omega) (by simp [maxLen];omega) (by simp;omega) ?_;intro v' w4 ho4 _ _ hb4 _;have c40:=(hb4.cell (p:=⟨ba,oa,none⟩) (by simp only;omega)).trans (by simp [go_sem,d4,za] :_=some (Value.int .i64 x.1));have c41:=(hb4.cell (p:=⟨ba,oa+1,none⟩) (by simp only;omega)).trans (by simp [go_sem,d5,za] :_=some (Value.int .i64 x.2))))
        have B4:Below w2.heap.size w3 w4:=((Below.refl w2.heap.size w3).alloc (by omega) _).drew.trans hb4;have O4:=LH ho4;have R4:=LH ((HA6.out.1 hca).below (hBb3.trans B4));have Q4:=LH (RB3.out.below B4);have E4:=LH (B3.trans B4);clear ho4 hb4 c40 c41 B4;go_wp2_with fail;go_roundw
        case rel=>exact⟨_,_,_,R4.out,Q4.out,O4.out,by rw [←HE.out,HM.out,if_neg (by omega),List.append_assoc];rfl,by simp only [List.length_append,List.length_cons,List.length_nil] at hlen⊢;omega,E4.out⟩
        case measure=>simp [lenV] <;> omega
theorem roll_Sorted (w:World) (v:Value) (l:List Nd) (hR:Rd w encN v l) (hn:l.length≤67108864) :Calls Tryz.prog 197 #[v] w (OwnPost 77 encN (msort l) w):=by
 obtain⟨A,cap,rfl,h1,h2,hS⟩:=hR;have HC:=LH (roll_sorted 67108864 · A cap l · h1 h2 hn (Nat.le_refl _));have HS:=LH hS;clear hS
 go_enter Tryz.func197,Tryz.ntmps197
 go_wp2_with fail;refine(HC.out _ HS.out).mono ?_;rintro e w1 ⟨v,rfl,ho,hb⟩;have HO:=LH ho;clear ho;go_wp2_with fail;go_ret;exact⟨_,rfl,HO.out,hb⟩
end
theorem probe_Add (w:World) (g l:Nat) (r:List Nd) (F:Nat→Prop) (h:ProbeAt w g l r F) (hf:Fits l r) (h1:1≤l) (h2:l≤48) (k:Nat) (hk1:1≤k) (hk2:k<2*2^l) (c:Int) (hc:0<c) (hsum:sumR r+c≤72057594037927935) (hr30:r.length<1073741824) :
 Calls Tryz.prog 149 #[.pointer (some ⟨g,0,none⟩),.int .i64 k,.int .i64 c] w (AddPost w g l (addR r k c) F):=by
 by_cases h0:getR r k=0
 ·exact probe_Add_new w g l r F h hf h1 h2 k hk1 hk2 c hc hsum h0 hr30
 ·have:=getR_nonneg hf.roll (k:Int)
  exact probe_Add_old w g l r F h hf h1 h2 k hk1 hk2 c hc hsum (by omega)
theorem ProbeAt.keep {w w':World} {g l:Nat} {r:List Nd} {F:Nat→Prop} (h:ProbeAt w g l r F) (hk: ∀b,F b→w'.heap[b]? =w.heap[b]?) :ProbeAt w' g l r F:=by
 obtain⟨v,S,b,hh,ho,h1,h2,h3,h4,rfl⟩:=h;exact⟨v,S,b,(hk g (.inl rfl)).trans hh,ho.of_block fun b hb=>hk b (.inr hb),h1,h2,h3,h4,rfl⟩
theorem ProbeAt.lt {w:World} {g l:Nat} {r:List Nd} {F:Nat→Prop} (h:ProbeAt w g l r F) : ∀b,F b→b<w.heap.size:=by
 obtain⟨v,S,b,hh,ho,_,_,_,_,rfl⟩:=h;rintro q (rfl|hq)
 ·exact lB hh
 ·exact(ho.lt q hq).2
theorem ProbeAt.below {w w':World} {g l:Nat} {r:List Nd} {F:Nat→Prop} (h:ProbeAt w g l r F) (hb:Below w.heap.size w w') :ProbeAt w' g l r F:=h.keep fun b hf=>hb.block b (h.lt b hf)
theorem ProbeAt.typed {w:World} {g l:Nat} {r:List Nd} {F:Nat→Prop} (h:ProbeAt w g l r F) : ∀b,F b→TypeAt w b 213∨TypeAt w b 77:=by
 obtain⟨v,S,b,hh,ho,_,_,_,_,rfl⟩:=h;rintro q (rfl|hq)
 ·exact .inl (.of hh)
 ·rcases ho with ⟨rfl,_⟩ | ⟨g1,o1,c1,u1,rfl,_,hh1,_⟩
  ·cases hq
  ·cases hq;exact .inr (.of hh1)
theorem probe_Snap (w:World) (g l:Nat) (r:List Nd) (F:Nat→Prop) (h:ProbeAt w g l r F) (hf:Fits l r) (hn:r.length≤67108864) :Calls Tryz.prog 155 #[.pointer (some ⟨g,0,none⟩)] w (OwnPost 77 encN r w):=by
 obtain⟨v,S,b,hh,ho,hI,hq3,hq34,hfree,rfl⟩:=h;obtain⟨sb,off,cap,rfl,hcap⟩:=own_at0 ho (by rw [hI.len];exact Nat.two_pow_pos b);have hl:=hI.len;have hSl:S.length≤34359738368:=by rw [hl];have:=Nat.pow_le_pow_right (n:=2) (by decide) (show b≤35 by omega);simpa using this
 have hcnt:=hI.count
 have hfl: ∀k,((S.take k).filter full).length≤67108864:=fun k=>by
  have h1: ((S.take k).filter full).length≤(S.filter full).length:=((List.take_sublist k S).filter full).length_le;omega
 have cc:=bC hh;have zg:=lB hh;have zb:=(ho.lt sb rfl).2;have HS:=LH ho.slT;have HI:=LH hI;have HL:=LH hfl;clear hh ho hI hl hcnt hfl hfree
 go_enter Tryz.func155,Tryz.ntmps155
 go_wp2_with fail
 go_loopw [3,13] (fun v i wr=>∃k:Nat,k≤S.length∧i=.int .i64 k∧Below w.heap.size w wr∧Own wr w.heap.size 77 encN v ((S.take k).filter full)) (fun _ i _=>S.length - (intOf i).toNat)
 case atStart=>exact⟨0,Nat.zero_le _,rfl,bE,Own.nil _ _ _ _⟩
 case round=>
  obtain⟨k,hk,rfl,hB,hown⟩:=hrel;have HO:=LH hown;clear hown;have hs:=hB.size;by_cases hlt:k<S.length
  ·have d0:=(hB.cell (p:=⟨sb,off+k*2+0,none⟩) zb).trans (HS.out.cell_at hlt 0 (.int .i64 S[k].1) rfl)
   have d1:=(hB.cell (p:=⟨sb,off+k*2+1,none⟩) zb).trans (HS.out.cell_at hlt 1 (.int .i64 S[k].2) rfl);simp only [Nat.add_zero] at d0;have hle:=HL.out k;obtain⟨x,hx⟩ : ∃x,x=S[k]:=⟨_,rfl⟩;rw [←hx] at d0 d1;have HX:=LH (take_filter_succ hlt x (by rw [hx];exact List.getElem?_eq_getElem hlt));have hx0:=HI.out.nonneg (i:=k) (x:=x) (by rw [hx];exact List.getElem?_eq_getElem hlt);clear hx;by_cases hn:0<x.2
   ·go_wp2_with ((at_builtin;refine wpList_push tyN rfl _ _ rfl encN (wr.alloc _) w.heap.size u3 _ rfl (HO.out.alloc _) x (by go_simp) rfl ?c1 ?c2 ?c3 ?c4))
    case c1=>omega
    case c2=>simp only [maxLen];omega
    case c3=>simp;omega
    case c4=>
     intro v' w2 hown2 hgrow _ hlies hb2 _;have HO2:=LH (show Own w2 w.heap.size 77 encN v' ((S.take (k+1)).filter full) by rw [HX.out,if_neg (by omega)];exact hown2);clear hown2;go_wp2_with fail;go_roundw
     case rel=>exact⟨k+1,by omega,by go_num,Below.trans (Below.allocW hB _) hb2,HO2.out⟩
     case measure=>simp [intOf];omega
   ·have HO2:=LH (show Own wr w.heap.size 77 encN u3 ((S.take (k+1)).filter full) by rw [HX.out,if_pos (by omega),List.append_nil];exact HO.out)
    go_wp2_with fail;go_roundw
    case rel=>exact⟨k+1,by omega,by go_num,Below.allocW hB _,HO2.out.alloc _⟩
    case measure=>simp [intOf];omega
  ·obtain rfl:k=S.length:=by omega
   rw [List.take_length] at HO;have HM:=LH (msort_roll HI.out.perm hf.roll);have hm:=HL.out S.length;rw [List.take_length] at hm;go_wp2_with fail;refine(roll_Sorted _ _ _ HO.out.rd hm).mono ?_;rintro e w2 ⟨v2,rfl,ho2,hb2⟩;rw [HM.out] at ho2;have HO2:=LH ho2;have HB2:=LH (hB.trans (hb2.mono hs));clear ho2 hb2;go_wp2_with fail;go_ret;exact⟨_,rfl,HO2.out.base_le hs,HB2.out⟩
def footP (g:Nat) (F0:Nat→Prop) :Nat→Prop:=fun b=>b=g∨F0 b
def PoolAt (w:World) (g K l:Nat) (r:List Nd) (F:Nat→Prop) :Prop:=
 1≤l∧l≤48∧Fits l r∧∃h F0,F=footP g F0∧((K=1∧l≤16∧w.heap[g]? =some (.cells #[.pointer (some ⟨h,0,none⟩),.pointer none] 150 (0,0))∧DenseAt w h l r F0)∨
  (K=2∧w.heap[g]? =some (.cells #[.pointer none,.pointer (some ⟨h,0,none⟩)] 150 (0,0))∧ProbeAt w h l r F0))
theorem PoolAt.keep {w w':World} {g K l:Nat} {r:List Nd} {F:Nat→Prop} (h:PoolAt w g K l r F) (hk: ∀b,F b→w'.heap[b]? =w.heap[b]?) :PoolAt w' g K l r F:=by
 obtain⟨h1,h2,h3,p,F0,rfl,h4⟩:=h;refine⟨h1,h2,h3,p,F0,rfl,?_⟩;rcases h4 with ⟨a,b,c,d⟩ | ⟨a,c,d⟩
 ·exact .inl ⟨a,b,(hk g (.inl rfl)).trans c,d.keep fun q hq=>hk q (.inr hq)⟩
 ·exact .inr ⟨a,(hk g (.inl rfl)).trans c,d.keep fun q hq=>hk q (.inr hq)⟩
theorem PoolAt.lt {w:World} {g K l:Nat} {r:List Nd} {F:Nat→Prop} (h:PoolAt w g K l r F) : ∀b,F b→b<w.heap.size:=by
 obtain⟨h1,h2,h3,p,F0,rfl,h4⟩:=h;rintro q (rfl|hq)
 ·rcases h4 with ⟨a,b,c,d⟩ | ⟨a,c,d⟩
  ·exact lB c
  ·exact lB c
 ·rcases h4 with ⟨a,b,c,d⟩ | ⟨a,c,d⟩
  ·exact d.lt q hq
  ·exact d.lt q hq
theorem PoolAt.below {w w':World} {g K l:Nat} {r:List Nd} {F:Nat→Prop} (h:PoolAt w g K l r F) (hb:Below w.heap.size w w') :PoolAt w' g K l r F:=h.keep fun b hf=>hb.block b (h.lt b hf)
theorem PoolAt.fits {w:World} {g K l:Nat} {r:List Nd} {F:Nat→Prop} (h:PoolAt w g K l r F) :Fits l r:=h.2.2.1
def PoolTypes (t:TypeId) :Prop:=t=150∨t=211∨t=3∨t=213∨t=77
theorem PoolAt.typed {w:World} {g K l:Nat} {r:List Nd} {F:Nat→Prop} (h:PoolAt w g K l r F) : ∀b,F b→∃t,PoolTypes t∧TypeAt w b t:=by
 obtain⟨h1,h2,h3,p,F0,rfl,h4⟩:=h;rintro q (rfl|hq)
 ·rcases h4 with ⟨a,b,c,d⟩ | ⟨a,c,d⟩
  ·exact⟨_,.inl rfl,.of c⟩
  ·exact⟨_,.inl rfl,.of c⟩
 ·rcases h4 with ⟨a,b,c,d⟩ | ⟨a,c,d⟩
  ·rcases d.typed q hq with h|h
   ·exact⟨_,.inr (.inl rfl),h⟩
   ·exact⟨_,.inr (.inr (.inl rfl)),h⟩
  ·rcases d.typed q hq with h|h
   ·exact⟨_,.inr (.inr (.inr (.inl rfl))),h⟩
   ·exact⟨_,.inr (.inr (.inr (.inr rfl))),h⟩
theorem typeAt_eq {w:World} {b t t':Nat} (h:TypeAt w b t) (h':TypeAt w b t') :t=t':=by
 obtain⟨_,_,h⟩:=h;obtain⟨_,_,h'⟩:=h';rw [h] at h'
 cases h'
 rfl
theorem pool_isArray (w:World) (g h:Nat) (q0:Value) (hh:w.heap[g]? =some (.cells #[.pointer (some ⟨h,0,none⟩),q0] 150 (0,0))) :Calls Tryz.prog 79 #[.pointer (some ⟨g,0,none⟩)] w fun e w'=>e=.returned (.bool true)∧Below w.heap.size w w':=by
 have c:=bC hh;have z:=lB hh;clear hh
 go_enter Tryz.func79,Tryz.ntmps79
 go_wp2_with fail;go_ret;exact⟨rfl,bE⟩
theorem pool_isArray_no (w:World) (g:Nat) (q0:Value) (hh:w.heap[g]? =some (.cells #[.pointer none,q0] 150 (0,0))) :Calls Tryz.prog 79 #[.pointer (some ⟨g,0,none⟩)] w fun e w'=>e=.returned (.bool false)∧Below w.heap.size w w':=by
 have c:=bC hh;have z:=lB hh;clear hh
 go_enter Tryz.func79,Tryz.ntmps79
 go_wp2_with fail;go_ret;exact⟨rfl,bE⟩
theorem pool_inner (w:World) (g:Nat) (p:Option Addr) (q0:Value) (hh:w.heap[g]? =some (.cells #[q0,.pointer p] 150 (0,0))) :Calls Tryz.prog 81 #[.pointer (some ⟨g,0,none⟩)] w fun e w'=>e=.returned (.pointer p)∧Below w.heap.size w w':=by
 have c:=bC hh;have z:=lB hh;clear hh
 go_enter Tryz.func81,Tryz.ntmps81
 go_wp2_with fail;go_ret;exact⟨rfl,bE⟩
theorem pool_L (w:World) (g K l:Nat) (r:List Nd) (F:Nat→Prop) (h:PoolAt w g K l r F) :Calls Tryz.prog 65 #[.pointer (some ⟨g,0,none⟩)] w fun e w'=>e=.returned (.int .i64 l)∧Below w.heap.size w w':=by
 obtain⟨h1,h2,h3,p,F0,rfl,h4⟩:=h;rcases h4 with ⟨rfl,h16,hh,hd⟩ | ⟨rfl,hh,hd⟩
 ·have H:=LH hh
  have HD:=LH hd;clear hh hd
  go_enter Tryz.func65,Tryz.ntmps65
  go_wp2_with fail;refine(pool_isArray _ g p _ H.out).mono ?_;rintro e w1 ⟨rfl,hb1⟩;have k1:=bB H.out hb1;have c1:=bC k1;have z1:=lB k1;have D1:=LH (HD.out.below hb1);clear k1;go_wp2_with fail;refine(dense_L _ p l r F0 D1.out).mono ?_;rintro e w2 ⟨rfl,hb2⟩;have HB2:=LH (hb1.trans (hb2.mono hb1.size));clear hb2;go_wp2_with fail;go_ret;exact⟨rfl,HB2.out⟩
 ·have H:=LH hh
  have HD:=LH hd;clear hh hd
  go_enter Tryz.func65,Tryz.ntmps65
  go_wp2_with fail;refine(pool_isArray_no _ g _ H.out).mono ?_;rintro e w0 ⟨rfl,hb0⟩;have K0:=LH (bB H.out hb0);go_wp2_with fail;refine(pool_inner _ g _ _ K0.out).mono ?_;rintro e w1 ⟨rfl,hb1'⟩;have hb1:=hb0.trans (hb1'.mono hb0.size);have D1:=LH (HD.out.below hb1);clear hb0 hb1' K0;go_wp2_with fail;refine(probe_L _ p l r F0 D1.out).mono ?_;rintro e w2 ⟨rfl,hb2⟩;have HB2:=LH (hb1.trans (hb2.mono hb1.size));clear hb2;go_wp2_with fail;go_ret;exact⟨rfl,HB2.out⟩
theorem pool_Total (w:World) (g K l:Nat) (r:List Nd) (F:Nat→Prop) (h:PoolAt w g K l r F) :Calls Tryz.prog 25 #[.pointer (some ⟨g,0,none⟩)] w fun e w'=>e=.returned (.int .i64 (sumR r))∧Below w.heap.size w w':=by
 obtain⟨h1,h2,h3,p,F0,rfl,h4⟩:=h;rcases h4 with ⟨rfl,h16,hh,hd⟩ | ⟨rfl,hh,hd⟩
 ·have H:=LH hh
  have HD:=LH hd;clear hh hd
  go_enter Tryz.func25,Tryz.ntmps25
  go_wp2_with fail;refine(pool_isArray _ g p _ H.out).mono ?_;rintro e w1 ⟨rfl,hb1⟩;have k1:=bB H.out hb1;have c1:=bC k1;have z1:=lB k1;have D1:=LH (HD.out.below hb1);clear k1;go_wp2_with fail;refine(dense_Total _ p l r F0 D1.out).mono ?_;rintro e w2 ⟨rfl,hb2⟩;have HB2:=LH (hb1.trans (hb2.mono hb1.size));clear hb2;go_wp2_with fail;go_ret;exact⟨rfl,HB2.out⟩
 ·have H:=LH hh
  have HD:=LH hd;clear hh hd
  go_enter Tryz.func25,Tryz.ntmps25
  go_wp2_with fail;refine(pool_isArray_no _ g _ H.out).mono ?_;rintro e w0 ⟨rfl,hb0⟩;have K0:=LH (bB H.out hb0);go_wp2_with fail;refine(pool_inner _ g _ _ K0.out).mono ?_;rintro e w1 ⟨rfl,hb1'⟩;have hb1:=hb0.trans (hb1'.mono hb0.size);have D1:=LH (HD.out.below hb1);clear hb0 hb1' K0;go_wp2_with fail;refine(probe_Total _ p l r F0 D1.out).mono ?_;rintro e w2 ⟨rfl,hb2⟩;have HB2:=LH (hb1.trans (hb2.mono hb1.size));clear hb2;go_wp2_with fail;go_ret;exact⟨rfl,HB2.out⟩
theorem pool_Snap (w:World) (g K l:Nat) (r:List Nd) (F:Nat→Prop) (h:PoolAt w g K l r F) (hn:r.length≤67108864) :Calls Tryz.prog 84 #[.pointer (some ⟨g,0,none⟩)] w (OwnPost 77 encN r w):=by
 obtain⟨h1,h2,h3,p,F0,rfl,h4⟩:=h;rcases h4 with ⟨rfl,h16,hh,hd⟩ | ⟨rfl,hh,hd⟩
 ·have H:=LH hh
  have HD:=LH hd;clear hh hd
  go_enter Tryz.func84,Tryz.ntmps84
  go_wp2_with fail;refine(pool_isArray _ g p _ H.out).mono ?_;rintro e w1 ⟨rfl,hb1⟩;have k1:=bB H.out hb1;have c1:=bC k1;have z1:=lB k1;have D1:=LH (HD.out.below hb1);clear k1;go_wp2_with fail;refine(dense_Snap _ p l r F0 D1.out h3 h16).mono ?_;rintro e w2 ⟨v,rfl,ho,hb2⟩;have HB2:=LH (hb1.trans (hb2.mono hb1.size));have HO:=LH ho;clear ho;clear hb2;go_wp2_with fail;go_ret;exact⟨_,rfl,HO.out.base_le hb1.size,HB2.out⟩
 ·have H:=LH hh
  have HD:=LH hd;clear hh hd
  go_enter Tryz.func84,Tryz.ntmps84
  go_wp2_with fail;refine(pool_isArray_no _ g _ H.out).mono ?_;rintro e w0 ⟨rfl,hb0⟩;have K0:=LH (bB H.out hb0);go_wp2_with fail;refine(pool_inner _ g _ _ K0.out).mono ?_;rintro e w1 ⟨rfl,hb1'⟩;have hb1:=hb0.trans (hb1'.mono hb0.size);have D1:=LH (HD.out.below hb1);clear hb0 hb1' K0;go_wp2_with fail;refine(probe_Snap _ p l r F0 D1.out h3 hn).mono ?_;rintro e w2 ⟨v,rfl,ho,hb2⟩;have HB2:=LH (hb1.trans (hb2.mono hb1.size));have HO:=LH ho;clear ho;clear hb2;go_wp2_with fail;go_ret;exact⟨_,rfl,HO.out.base_le hb1.size,HB2.out⟩
theorem Fits.add {l:Nat} {r:List Nd} (h:Fits l r) {k c:Int} (hk1:1≤k) (hk2:k<2*2^l) (hc:1≤c) (hsum:sumR r+c≤72057594037927935) :Fits l (addR r k c):=
 ⟨h.roll.add hk1 hc,fun x hx=>by
  rcases addR_mem hx with he|hx
  ·rw [he];exact hk2
  ·exact h.lt x hx,by rw [sumR_add];exact hsum⟩
def PAddPost (w:World) (g K l:Nat) (r:List Nd) (F:Nat→Prop) (v:Value) (e:Ending) (w':World) :Prop:=∃F',e=.returned v∧PoolAt w' g K l r F'∧Turn F w w'∧Grow w F F'
theorem dense_Add (w:World) (g l:Nat) (r:List Nd) (F:Nat→Prop) (h:DenseAt w g l r F) (hf:Fits l r) (h1:1≤l) (h2:l≤16) (k:Nat) (hk1:1≤k) (hk2:k<2*2^l) (c:Int) (hc:0<c) (hsum:sumR r+c≤72057594037927935) :
 Calls Tryz.prog 148 #[.pointer (some ⟨g,0,none⟩),.int .i64 k,.int .i64 c] w fun e w'=>e=.returned (.int .i64 0)∧DenseAt w' g l (addR r k c) F∧Turn F w w':=by
 by_cases h0:getR r k=0
 ·exact dense_Add_new w g l r F h hf h1 h2 k hk1 hk2 c hc hsum h0
 ·have:=getR_nonneg hf.roll (k:Int)
  exact dense_Add_old w g l r F h hf h1 h2 k hk1 hk2 c (by omega) hsum (by omega)
theorem Grow.foot {w:World} {g:Nat} {F F':Nat→Prop} (h:Grow w F F') :Grow w (footP g F) (footP g F'):=fun b hb=>by
 rcases hb with hb|hb
 ·exact .inl (.inl hb)
 ·rcases h b hb with hb|hb
  ·exact .inl (.inr hb)
  ·exact .inr hb
theorem pool_Add (w:World) (g K l:Nat) (r:List Nd) (F:Nat→Prop) (h:PoolAt w g K l r F) (k:Nat) (hk1:1≤k) (hk2:k<2*2^l) (c:Int) (hc:0<c) (hsum:sumR r+c≤72057594037927935) (hr30:r.length<1073741824) :
 Calls Tryz.prog 70 #[.pointer (some ⟨g,0,none⟩),.int .i64 k,.int .i64 c] w (PAddPost w g K l (addR r k c) F (.int .i64 0)):=by
 obtain⟨h1,h2,h3,p,F0,rfl,h4⟩:=h;have hF:=h3.add (k:=(k:Int)) (c:=c) (by omega) (by exact_mod_cast hk2) (by omega) hsum;rcases h4 with ⟨rfl,h16,hh,hd⟩ | ⟨rfl,hh,hd⟩
 ·have hgF: ¬F0 g:=fun hg=>by
   rcases hd.typed g hg with h|h
   ·exact absurd (typeAt_eq h (.of hh)) (by decide)
   ·exact absurd (typeAt_eq h (.of hh)) (by decide)
  have H:=LH hh;have HD:=LH hd;clear hh hd
  go_enter Tryz.func70,Tryz.ntmps70
  go_wp2_with fail;refine(pool_isArray _ g p _ H.out).mono ?_;rintro e w1 ⟨rfl,hb1⟩;have k1:=bB H.out hb1;have c1:=bC k1;have z1:=lB k1;have D1:=LH (HD.out.below hb1);have K1:=LH k1;clear k1;go_wp2_with fail;refine(dense_Add _ p l r F0 D1.out h3 h1 h16 k hk1 hk2 c hc hsum).mono ?_;rintro e w2 ⟨rfl,hd2,hT2⟩
  have HP:Hid (PAddPost w g 1 l (addR r k c) (footP g F0) (.int .i64 0) (.returned (.int .i64 0)) w2):=
   ⟨_,rfl,⟨h1,h2,hF,p,F0,rfl,.inl ⟨rfl,h16,hT2.keep K1.out hgF,hd2⟩⟩,(Turn.of_below hb1).trans hT2 (fun b hb=>.inl (.inr hb)),Grow.refl⟩
  clear hd2 hT2;go_wp2_with fail;go_ret;exact HP.out
 ·have hgF: ¬F0 g:=fun hg=>by
   rcases hd.typed g hg with h|h
   ·exact absurd (typeAt_eq h (.of hh)) (by decide)
   ·exact absurd (typeAt_eq h (.of hh)) (by decide)
  have H:=LH hh;have HD:=LH hd;clear hh hd
  go_enter Tryz.func70,Tryz.ntmps70
  go_wp2_with fail;refine(pool_isArray_no _ g _ H.out).mono ?_;rintro e w0 ⟨rfl,hb0⟩;have K0:=LH (bB H.out hb0);go_wp2_with fail;refine(pool_inner _ g _ _ K0.out).mono ?_;rintro e w1 ⟨rfl,hb1'⟩;have hb1:=hb0.trans (hb1'.mono hb0.size);have D1:=LH (HD.out.below hb1);have K1:=LH (bB H.out hb1);clear hb0 hb1' K0;go_wp2_with fail;refine(probe_Add _ p l r F0 D1.out h3 h1 h2 k hk1 hk2 c hc hsum hr30).mono ?_;rintro e w2 ⟨F2,rfl,hd2,hT2,hG2⟩
  have HP:Hid (PAddPost w g 2 l (addR r k c) (footP g F0) (.int .i64 0) (.returned (.int .i64 0)) w2):=
   ⟨_,rfl,⟨h1,h2,hF,p,F2,rfl,.inr ⟨rfl,hT2.keep K1.out hgF,hd2⟩⟩,(Turn.of_below hb1).trans hT2 (fun b hb=>.inl (.inr hb)),Grow.foot fun b hb=>by
    rcases hG2 b hb with h|h
    ·exact .inl h
    ·exact .inr (Nat.le_trans hb1.size h)⟩
  clear hd2 hT2;go_wp2_with fail;go_ret;exact HP.out
def isPool (K l:Int) :Bool:=decide ((K=1∧1≤l∧l≤16)∨(K=2∧1≤l∧l≤48))
theorem pool_New_no (w:World) (K l:Int) (h:isPool K l=false) :Calls Tryz.prog 63 #[.int .i64 K,.int .i64 l] w fun e w'=>e=.returned (.tuple #[.pointer none,.int .i64 2])∧Below w.heap.size w w':=by
 simp only [isPool,decide_eq_false_iff_not] at h;by_cases hK1:K=1
 ·subst hK1
  have hl:l<1∨16<l:=by omega
  have HC:=LH (dense_New_no · l hl);clear h hl
  go_enter Tryz.func63,Tryz.ntmps63
  go_wp2_with fail;refine(HC.out _).mono ?_;rintro e w1 ⟨rfl,hb1⟩;have B1:Below w.heap.size w w1:=Below.then_ bE hb1;have s1:=B1.size;have z1_0:w.heap.size<w1.heap.size:=by have:=hb1.size;(try simp at this);omega
  have y1_0:w.heap.size≤w1.heap.size:=Nat.le_of_lt z1_0;have c1_0:=czB hb1 (w.heap.size);have f1_0:=fzB hb1 (w.heap.size);go_wp2_with fail
  go_ret2
  exact⟨rfl,bE⟩
 ·by_cases hK2:K=2
  ·subst hK2
   have hl:l<1∨48<l:=by omega
   have HC:=LH (probe_New_no · l hl);clear h hl
   go_enter Tryz.func63,Tryz.ntmps63
   go_wp2_with fail;refine(HC.out _).mono ?_;rintro e w1 ⟨rfl,hb1⟩;have B1:Below w.heap.size w w1:=Below.then_ bE hb1;have s1:=B1.size;have z1_0:w.heap.size<w1.heap.size:=by have:=hb1.size;(try simp at this);omega
   have y1_0:w.heap.size≤w1.heap.size:=Nat.le_of_lt z1_0;have c1_0:=czB hb1 (w.heap.size);have f1_0:=fzB hb1 (w.heap.size);go_wp2_with fail
   go_ret2
   exact⟨rfl,bE⟩
  ·have e1: (K == 1) =false:=by simpa using hK1
   have e2: (K == 2) =false:=by simpa using hK2
   clear h
   go_enter Tryz.func63,Tryz.ntmps63
   go_wp2_with fail
   go_ret2
   exact⟨rfl,bE⟩
def NewPost (K l:Nat) (r:List Nd) (w:World) (e:Ending) (w':World) :Prop:=∃g F,e=.returned (.tuple #[.pointer (some ⟨g,0,none⟩),.int .i64 0])∧PoolAt w' g K l r F∧(∀b,F b→w.heap.size≤b)∧Below w.heap.size w w'
theorem Fits.nil (l:Nat) :Fits l []:=⟨⟨.nil,by simp⟩,by simp,by simp [sumR]⟩
theorem pool_New (w:World) (K l:Nat) (h:isPool K l=true) :Calls Tryz.prog 63 #[.int .i64 K,.int .i64 l] w (NewPost K l [] w):=by
 simp only [isPool,decide_eq_true_eq] at h;rcases h with ⟨h0,h1,h2⟩ | ⟨h0,h1,h2⟩
 ·obtain rfl:K=1:=by omega
  have HC:=LH (dense_New · l (by omega) (by omega))
  go_enter Tryz.func63,Tryz.ntmps63
  go_wp2_with fail;refine(HC.out _).mono ?_;rintro e w1 ⟨p,F0,rfl,hd,hF,hb1⟩;have B1:Below w.heap.size w w1:=Below.then_ bE hb1;have s1:=B1.size;have z1_0:w.heap.size<w1.heap.size:=by have:=hb1.size;(try simp at this);omega
  have y1_0:w.heap.size≤w1.heap.size:=Nat.le_of_lt z1_0;have c1_0:=czB hb1 (w.heap.size);have f1_0:=fzB hb1 (w.heap.size);have k1:=bB (heap_new_at w (.cells #[.pointer none,.pointer none] 150) _ rfl) hb1;have c1:=bC k1;have f1:=bF k1;have HD:=LH hd;have K1:=LH k1;simp only [World.size_alloc] at hF;have HF:=LH hF;clear hd k1 hF c1_0 f1_0;go_wp2_with fail
  go_ret2
  refine⟨w.heap.size,footP w.heap.size F0,rfl,⟨by omega,by omega,Fits.nil l,p,F0,rfl,.inl ⟨rfl,by omega,zH K1.out _,?_⟩⟩,?_,bE⟩
  ·exact HD.out.keep fun b hb=>Below.heap_setCell _ _ _ _ (by have:=HF.out b hb;simp only;omega)
  ·rintro b (rfl|hb)
   ·exact Nat.le_refl _
   ·have:=HF.out b hb;omega
 ·obtain rfl:K=2:=by omega
  have HC:=LH (probe_New · l (by omega) (by omega))
  go_enter Tryz.func63,Tryz.ntmps63
  go_wp2_with fail;refine(HC.out _).mono ?_;rintro e w1 ⟨p,F0,rfl,hd,hF,hb1⟩;have B1:Below w.heap.size w w1:=Below.then_ bE hb1;have s1:=B1.size;have z1_0:w.heap.size<w1.heap.size:=by have:=hb1.size;(try simp at this);omega
  have y1_0:w.heap.size≤w1.heap.size:=Nat.le_of_lt z1_0;have c1_0:=czB hb1 (w.heap.size);have f1_0:=fzB hb1 (w.heap.size);have k1:=bB (heap_new_at w (.cells #[.pointer none,.pointer none] 150) _ rfl) hb1;have c1:=bC k1;have f1:=bF k1;have HD:=LH hd;have K1:=LH k1;simp only [World.size_alloc] at hF;have HF:=LH hF;clear hd k1 hF c1_0 f1_0;go_wp2_with fail
  go_ret2
  refine⟨w.heap.size,footP w.heap.size F0,rfl,⟨by omega,by omega,Fits.nil l,p,F0,rfl,.inr ⟨rfl,zH K1.out _,?_⟩⟩,?_,bE⟩
  ·exact HD.out.keep fun b hb=>Below.heap_setCell _ _ _ _ (by have:=HF.out b hb;simp only;omega)
  ·rintro b (rfl|hb)
   ·exact Nat.le_refl _
   ·have:=HF.out b hb;omega
def rollOf (l:List Nd) :List Nd:=l.foldl (fun r x=>addR r x.1 x.2) []
theorem addR_last {r:List Nd} {id c:Int} (h: ∀x∈r,x.1<id) :addR r id c=r ++ [(id,c)]:=by
 induction r with
 |nil=>rfl
 |cons x r ih=>
  have hx:=h x (by simp);simp only [addR];rw [if_neg (by omega),if_neg (by omega),ih fun y hy=>h y (by simp [hy])]
  rfl
theorem sumR_append (a b:List Nd) :sumR (a ++ b) =sumR a+sumR b:=by
 induction a with
 |nil=>simp [sumR]
 |cons x a ih=>simp only [List.cons_append,sumR,ih];omega
theorem Roll.take {r:List Nd} (h:Roll r) (k:Nat) :Roll (r.take k):=⟨h.1.sublist (List.take_sublist k r),fun x hx=>h.2 x (List.mem_of_mem_take hx)⟩
theorem addR_take {r:List Nd} (h:Roll r) {k:Nat} (hk:k<r.length) :addR (r.take k) r[k].1 r[k].2=r.take (k+1):=by
 rw [List.take_succ_eq_append_getElem hk,addR_last];intro x hx;obtain⟨i,hi,rfl⟩:=List.mem_take_iff_getElem.1 hx;exact List.pairwise_iff_getElem.1 h.1 i k (by omega) hk (by omega)
theorem sumR_take_succ {r:List Nd} {k:Nat} (hk:k<r.length) :sumR (r.take (k+1)) =sumR (r.take k) +r[k].2:=by
 rw [List.take_succ_eq_append_getElem hk,sumR_append];simp [sumR]
theorem sumR_take_le {r:List Nd} (h:Roll r) (k:Nat) :sumR (r.take k)≤sumR r:=by
 have h1:sumR r=sumR (r.take k) +sumR (r.drop k):=by rw [←sumR_append,List.take_append_drop]
 have h2:Roll (r.drop k):=⟨h.1.sublist (List.drop_sublist k r),fun x hx=>h.2 x (List.mem_of_mem_drop hx)⟩;have:=sumR_nonneg h2;omega
def PutPost (w:World) (g K l:Nat) (r:List Nd) (F:Nat→Prop) (e:Ending) (w':World) :Prop:=∃F',e=.returned (.tuple #[])∧PoolAt w' g K l r F'∧Turn F w w'∧Grow w F F'
theorem pool_put (w:World) (g K l:Nat) (F:Nat→Prop) (A:Option Addr) (cap:Nat) (r:List Nd) (h:PoolAt w g K l [] F) (hf:Fits l r) (hS:Sl w w.heap.size encN A r) (hFA: ∀b o,A=some ⟨b,o,none⟩→r≠ []→¬F b) (hn:r.length<67108864) :
 Calls Tryz.prog 128 #[.pointer (some ⟨g,0,none⟩),.slice A r.length cap] w (PutPost w g K l r F):=by
 have HP:=LH h;have HS:=LH hS;have HA:=LH hFA;clear h hS hFA
 go_enter Tryz.func128,Tryz.ntmps128
 go_wp2_with fail
 go_loopw [8] (fun i wr=>∃(k:Nat) (F':Nat→Prop),k≤r.length∧i=.int .i64 k∧PoolAt wr g K l (r.take k) F'∧Turn F w wr∧Grow w F F') (fun i _=>r.length - (intOf i).toNat)
 case atStart=>exact⟨0,F,Nat.zero_le _,rfl,HP.out,Turn.refl _ _,Grow.refl⟩
 case round=>
  obtain⟨k,F',hk,rfl,hP,hT,hG⟩:=hrel;have HK:=LH hP;have HT:=LH hT;have HG:=LH hG;have hs:=hT.size;clear hP hT hG;by_cases hlt:k<r.length
  ·obtain⟨b,off,rfl,hb,hc⟩:=HS.out.at_ hlt
   have nF:=HA.out b off rfl (fun h=>by rw [h] at hlt;simp at hlt);have d0:=(HT.out.cell (o:=off+k*2+0) hb nF).trans (hc 0 (.int .i64 r[k].1) rfl);have d1:=(HT.out.cell (o:=off+k*2+1) hb nF).trans (hc 1 (.int .i64 r[k].2) rfl);simp only [Nat.add_zero] at d0;have hx:=hf.roll.2 _ (List.getElem_mem hlt);have hxl:=hf.lt _ (List.getElem_mem hlt);have e1:=sumR_take_succ hlt;have e2:=sumR_take_le hf.roll (k+1);have e3:=hf.sum;have e4:=addR_take hf.roll hlt;obtain⟨x,hxe⟩ : ∃x,x=r[k]:=⟨_,rfl⟩;rw [←hxe] at d0 d1 hx hxl e1 e4;obtain⟨n,hn1⟩:=Int.eq_ofNat_of_zero_le (show 0≤x.1 by omega);have hlen: (r.take k).length≤r.length:=List.length_take_le' _ _;rw [hn1] at d0 hx hxl e4
   have HC:Hid (∀W,PoolAt W g K l (r.take k) F'→Calls Tryz.prog 70 #[.pointer (some ⟨g,0,none⟩),.int .i64 (n:Nat),.int .i64 x.2] W (PAddPost W g K l (r.take (k+1)) F' (.int .i64 0))):=LH fun W hW=>by
    have:=pool_Add W g K l (r.take k) F' hW n (by omega) (by exact_mod_cast hxl) x.2 (by omega) (by omega) (by omega)
    rwa [e4] at this
   clear hc e1 e2 e3 e4 hxe hn1;go_wp2_with fail;refine(HC.out _ (HK.out.below ((Below.refl _ _).alloc (Nat.le_refl _) _))).mono ?_;rintro e w2 ⟨F2,rfl,hP2,hT2,hG2⟩;have KP2:=LH hP2;have HT2:Hid (Turn F w w2):=LH ((HT.out.alloc (.cells #[.int .i64 (n:Nat),.int .i64 x.2] 77)).trans hT2 HG.out);have HG2:Hid (Grow w F F2):=LH (HG.out.trans hG2 (Nat.le_trans hs (by simp)));clear hP2 hT2 hG2;go_wp2_with fail;go_roundw
   case rel=>exact⟨k+1,F2,by omega,by go_num,KP2.out,HT2.out,HG2.out⟩
   case measure=>simp [intOf];omega
  ·obtain rfl:k=r.length:=by omega
   rw [List.take_length] at HK;go_wp2_with fail
   go_end0
   exact⟨F',rfl,HK.out,HT.out,HG.out⟩
theorem totalFrom_ok {n:Int} {l:List Nd} (h: (totalFrom n l).2=true) (hn:0≤n) (hm:n≤most) : (totalFrom n l).1=n+sumR l∧n+sumR l≤most:=by
 induction l generalizing n with
 |nil=>simp [totalFrom,sumR];exact hm
 |cons x l ih=>
  simp only [totalFrom] at h⊢
  split at h
  ·rename_i hc
   rw [if_pos hc];have h1:=addOf_le n x.2 hc.1;have h2:=ih h h1.1 hc.2
   have h3: (addOf n x.2).1=n+x.2:=by
    have:=hc.1;unfold addOf at this⊢
    split
    ·rfl
    ·rename_i hn;rw [if_neg hn] at this;cases this
   simp only [sumR];omega
  ·simp at h
theorem rises_roll {l last:Int} {r:List Nd} (h:risesFrom l last r=true) : (∀x∈r,last<x.1∧isNode l x.1=true∧1≤x.2)∧r.Pairwise (fun a b=>a.1<b.1):=by
 induction r generalizing last with
 |nil=>exact⟨by simp,.nil⟩
 |cons x r ih=>
  simp only [risesFrom,Bool.and_eq_true,decide_eq_true_eq] at h;obtain⟨⟨⟨h1,h2⟩,h3⟩,h4⟩:=h;obtain⟨i1,i2⟩:=ih h4;refine⟨fun y hy=> ?_,List.pairwise_cons.2 ⟨fun y hy=>(i1 y hy).1,i2⟩⟩;rcases List.mem_cons.1 hy with rfl|hy
  ·exact⟨h1,h2,h3⟩
  ·have:=i1 y hy;exact⟨by omega,this.2⟩
theorem isNode_lt {l:Nat} {id:Int} (h:isNode l id=true) :1≤id∧id<2*2^l:=by
 simp only [isNode,decide_eq_true_eq,Int.toNat_natCast] at h;exact h.2
theorem right_fits {l:Nat} {r:List Nd} (h:rightOf l r=true) :Fits l r∧(totalOf r).1=sumR r:=by
 simp only [rightOf,Bool.and_eq_true] at h;obtain⟨⟨h1,h2⟩,_⟩:=h;obtain⟨i1,i2⟩:=rises_roll h1;have h3:=totalFrom_ok h2 (by omega) (by decide);refine⟨⟨⟨i2,fun x hx=>⟨(isNode_lt (i1 x hx).2.1).1,(i1 x hx).2.2⟩⟩,fun x hx=>(isNode_lt (i1 x hx).2.1).2,by unfold most at h3;omega⟩,?_⟩;unfold totalOf;rw [h3.1];omega
theorem pool_Load (w:World) (K l:Nat) (A:Option Addr) (cap:Nat) (r:List Nd) (h:isPool K l=true) (hR:rightOf l r=true) (hS:Sl w w.heap.size encN A r) (hI:ints r) (hn:r.length<67108864) :
 Calls Tryz.prog 57 #[.int .i64 K,.int .i64 l,.slice A r.length cap] w (NewPost K l r w):=by
 have HC:=LH (pool_New · K l h);have HR:=LH (roll_Right · l A cap r · hI (by unfold maxLen;omega));have HF:=LH hR;have HS:=LH hS;have HT:=LH (right_fits hR).1;clear h hR hS
 go_enter Tryz.func57,Tryz.ntmps57
 go_wp2_with fail;refine(HC.out _).mono ?_;rintro e w1 ⟨g,F,rfl,hP,hF,hb1⟩;have B1:Below w.heap.size w w1:=Below.then_ bE hb1;have s1:=B1.size;have S1:=LH (HS.out.keep hb1.size fun p hp=>hb1.cell hp);have KP:=LH hP;have KF:=LH hF;clear hP hF;go_wp2_with fail;refine(HR.out _ S1.out).mono ?_;rintro e w2 ⟨rfl,hb2⟩;have B2:Below w.heap.size w w2:=Below.then_ bE hb2;have s2:=B2.size;rw [HF.out];have KP2:=LH (KP.out.below hb2);have S2:=LH (S1.out.keep hb2.size fun p hp=>hb2.cell hp)
 have HA:Hid (∀b o,A=some ⟨b,o,none⟩→r≠ []→b<w.heap.size):=LH fun b o hA hr=>by
  rcases HS.out with h| ⟨b',o',hA',hb,_⟩
  ·exact absurd h hr
  ·rw [hA] at hA';cases hA';exact hb
 go_wp2_with fail;refine(pool_put _ g K l F A cap r KP2.out HT.out S2.out (fun b o hA hr0 hf=>by have h1:=HA.out b o hA hr0;have h2:=KF.out b hf;omega) hn).mono ?_;rintro e w3 ⟨F3,rfl,hP3,hT3,hG3⟩
 have HP:Hid (NewPost K l r w (.returned (.tuple #[.pointer (some ⟨g,0,none⟩),.int .i64 0])) w3):=LH ⟨g,F3,rfl,hP3,fun b hb=>by
  rcases hG3 b hb with h|h
  ·exact KF.out b h
  ·have:=B2.size;omega,B2.trans (hT3.below KF.out (B2.size))⟩
 clear hP3 hT3 hG3;go_wp2_with fail
 go_ret2
 exact HP.out
section
attribute [local go_sem] Oper.semAt_some
def KeepN (A B:World) :Prop:=A.heap.size≤B.heap.size∧∀(b:Nat) (cs:Array Value) (fr:Nat×Nat),A.heap[b]? =some (.cells cs 77 fr)→B.heap[b]? =some (.cells cs 77 fr)
theorem keepN_t {A B C:World} (h:KeepN A B) (k:KeepN B C) :KeepN A C:=⟨Nat.le_trans h.1 k.1,fun b cs fr hb=>k.2 b cs fr (h.2 b cs fr hb)⟩
theorem keepN_b (W:World) (l:Nat) (o o':Obj) (h:W.heap[l]? =some o) (hc:o.isCells=false) :KeepN W (W.putObj l o'):=by
 refine⟨(grownBy_putObj' W l o').size,fun b cs fr hb=> ?_⟩
 have hne:b≠l:=by
  rintro rfl;rw [h] at hb
  cases hb
  simp [Obj.isCells] at hc
 rw [World.putObj_heap_other hne];exact hb
theorem KeepN.of_below {A B:World} (h:Below A.heap.size A B) :KeepN A B:=⟨h.size,fun b cs fr hb=>(h.block b (lB hb)).trans hb⟩
theorem KeepN.own {base:Nat} {A B:World} {v:Value} {l:List Nd} (h:KeepN A B) (ho:Own A base 77 encN v l) :Own B base 77 encN v l:=
 ho.of_block fun g hv=>by
  rcases ho with ⟨rfl,_⟩ | ⟨g1,o1,c1,u1,rfl,_,hh1,_⟩
  ·cases hv
  ·have:g1=g:=by simpa [Value.ownBlock] using hv
   subst this;rw [hh1];exact h.2 _ _ _ hh1
theorem pool_Each (w:World) (g:Nat) :Calls Tryz.prog 130 #[.pointer (some ⟨g,0,none⟩)] w fun e w'=>e=.returned (.func (.func 183) #[] #[.pointer (some ⟨w.heap.size,0,none⟩)])∧w.alloc (.cells #[.pointer (some ⟨g,0,none⟩)] 68) =w':=by
 go_enter Tryz.func130,Tryz.ntmps130
 go_wp2_with fail;go_ret;exact⟨rfl,rfl⟩
theorem each_stops (n Bs g K l:Nat) (r:List Nd) (F0:Nat→Prop) (w:World) (hn:1≤n) (hBs:w.heap[Bs]? =some (.cells #[.pointer (some ⟨g,0,none⟩)] 68 (0,0))) (hP:PoolAt w g K l r F0) (hr:r.length≤67108864) :
 SeqStopsK Fence.wide n Tryz.prog 183 #[.pointer (some ⟨Bs,0,none⟩)] (fun x:Nd=> #[Value.int .i64 x.1,Value.int .i64 x.2]) KeepN (fun ys=>ys=r) (fun pre=>pre <+: r) r.length w:=fun q J Jx W hW hJ hJx hY h0=>by
 have kb:=bB hBs hW;have HP:=LH (hP.below hW);have cb:=bC kb;have HY:=LH hY;have HJ:=LH hJ;clear kb hBs hP hY hJ;refine callsIn_of_wp Tryz.func183 rfl trivial ?_ rfl;simp only [Tryz.ntmps183,List.size_toArray,List.length_cons,List.length_nil,Nat.reduceAdd,Nat.reduceSub,Array.replicate_succ,Array.replicate_zero,List.push_toArray,List.append_toArray,List.nil_append,List.cons_append]
 gi_wp2_with fail
 refine⟨trivial,?_⟩;refine(callsIn_wide.2 (pool_Snap _ g K l r F0 HP.out hr)).mono ?_;rintro e w1 ⟨v,rfl,ho,hb⟩;have HO:=LH ho;have J0:Hid (J [] w1):=LH (HJ.out _ _ _ none h0 (grownBy_of_below hb none) (fun _ h=>by cases h));have hs:=hb.size;obtain⟨A,cap,rfl,_⟩:=ho.form;clear ho hb h0
 gi_wp2_with fail
 gi_loopw [8] (fun i wr=>∃k:Nat,k≤r.length∧i=.int .i64 k∧Own wr W.heap.size 77 encN (.slice A r.length cap) r∧J (r.take k) wr∧W.heap.size≤wr.heap.size) (fun i _=>r.length - (intOf i).toNat)
 case atStart=>exact⟨0,Nat.zero_le _,rfl,HO.out,J0.out,hs⟩
 case round=>
  obtain⟨k,hk,rfl,hown,hJk,hsz⟩:=hrel;have KO:=LH hown;have KJ:=LH hJk;clear hown hJk;by_cases hlt:k<r.length
  ·obtain⟨b,off,rfl,hT,hc⟩:=KO.out.slT.at_ hlt
   have d0:=hc 0 (.int .i64 r[k].1) rfl;have d1:=hc 1 (.int .i64 r[k].2) rfl;simp only [Nat.add_zero] at d0;have hts:=List.take_succ_eq_append_getElem hlt;obtain⟨x,hx⟩ : ∃x,x=r[k]:=⟨_,rfl⟩;rw [←hx] at d0 d1 hts;have HS:=LH hts;have hA:Below wr.heap.size wr (wr.alloc (.cells #[.int .i64 x.1,.int .i64 x.2] 77)):=(Below.refl _ _).alloc (Nat.le_refl _) _;have hJ2:=HJ.out _ _ _ none KJ.out (grownBy_of_below hA none) (fun _ h=>by cases h);obtain⟨fn,tmps,assign,body,hy,hR⟩:=HY.out (r.take k) x _ hJ2 (by rw [List.length_take];omega);have KA:=LH (KO.out.below hA);clear hc hts hx hJ2 hA hT
   gi_wp2_with fail
   refine hR.mono ?_;rintro e w3 (⟨rfl,hJ3,hk3⟩ | ⟨rfl,hJx3⟩)
   ·have K3:=LH (hk3.own KA.out)
    have z3:=hk3.1;rw [←HS.out] at hJ3;have J3:=LH hJ3;clear hJ3 hk3
    gi_wp2_with fail
    go_roundw
    case rel=>exact⟨k+1,by omega,by go_num,K3.out,J3.out,by simp at z3;omega⟩
    case measure=>simp [intOf];omega
   ·rw [←HS.out] at hJx3
    have J3:=LH hJx3;clear hJx3
    gi_wp2_with fail
    refine bR (results_none rfl _ _ _) rfl ?_;exact⟨⟨_,rfl⟩,.inr ⟨_,List.take_prefix _ _,J3.out⟩⟩
  ·obtain rfl:k=r.length:=by omega
   rw [List.take_length] at KJ
   gi_wp2_with fail
   go_end0
   exact⟨⟨_,rfl⟩,.inl ⟨_,rfl,KJ.out⟩⟩
end
section
variable {α:Type} {P:Program} {t e:TypeId} {size bytes:Nat} {z:Value} {F:Fence} {n:Nat}
theorem wpListIn_app {w:World} {ops:Array Oper} {rest:List Oper} {o:Oper} {a:Act} {Q:Exit→Act→World→Prop} (T:SliceTy P t e size bytes z) (hgd:o.guard=none) (s x:Operand)
 (ho:o.op=.call {callee:=.builtin .append,args:= #[s,x],argTypes:= #[t,t]}) (E:Enc α size) (base:Nat) (v:Value) (l:List α) (hs:a.eval s=v) (hown:Own w base e E v l)
 (A:Option Addr) (c:Nat) (l2:List α) (B:Nat) (hx:a.eval x=.slice A l2.length c) (hsrc:Sl w B E A l2) (hn: (l.length+l2.length) *bytes≤140737488355328) (hm:l.length+l2.length≤maxLen) (hbase:base≤w.heap.size)
 (h: ∀v' w',Own w' base e E v' (l ++ l2)→w.grownBy w' v.ownBlock→(v'.ownBlock=v.ownBlock∨v'.ownBlock=some w.heap.size)→Below base w w'→(l2≠ []→v'≠.slice none 0 0)→
   wpListIn F n P ops Q rest (a.put o.dst v') w') :wpListIn F n P ops Q (o :: rest) a w:=by
 refine wpListIn_plain hgd fun K hK=> ?_;obtain⟨v',w',hr,h2,h3,h4,h5⟩:=app_run T o.type w base v l hown A c l2 B hsrc hn hm hbase;unfold Oper.wpIn;refine⟨?_,?_⟩
 ·simp [Oper.about,ho,resolve,Target.leads,Sem.run_pure]
 ·rw [Oper.semAt_plain F _ _ (by rw [ho];intro c hc';cases hc')]
  simp only [execOp,ho,resolve,invoke,builtin,Sem.run_bind,Sem.run_pure,Result.andThen_ok,List.map_toArray,List.map_cons,List.map_nil,hs,hx,hr];exact hK _ _ (h v' w' h2 h3 h4 ((Below.refl base w).grown h3 hbase fun k hk=>(hown.lt k hk).1) h5)
theorem wpListIn_push {w:World} {ops:Array Oper} {rest:List Oper} {o:Oper} {a:Act} {Q:Exit→Act→World→Prop} (T:SliceTy P t e size bytes z) (hgd:o.guard=none) (s x:Operand)
 (ho:o.op=.call {callee:=.builtin .append,args:= #[s,x],argTypes:= #[t,t]}) (E:Enc α size) (W:World) (base:Nat) (v:Value) (l:List α) (hs:a.eval s=v) (hown:Own W base e E v l)
 (x0:α) (hx:a.eval x=.slice (some ⟨W.heap.size,0,none⟩) 1 1) (hw:w=W.alloc (.cells (E.enc x0).toArray e)) (hn: (l.length+1) *bytes≤140737488355328) (hm:l.length+1≤maxLen) (hbase:base≤W.heap.size)
 (h: ∀v' w',Own w' base e E v' (l ++ [x0])→W.grownBy w' v.ownBlock→W.heap.size<w'.heap.size→(v'.ownBlock=v.ownBlock∨v'.ownBlock=some (W.heap.size+1))→Below base W w'→v'≠.slice none 0 0→
   wpListIn F n P ops Q rest (a.put o.dst v') w') :wpListIn F n P ops Q (o :: rest) a w:=by
 subst hw;have hsl:=sl_lit W E [x0] e _ rfl;simp only [List.flatMap_cons,List.flatMap_nil,List.append_nil] at hsl;refine wpListIn_app T hgd s x ho E base v l hs (hown.alloc _) (some ⟨W.heap.size,0,none⟩) 1 [x0] _ (by simpa using hx) hsl (by simpa using hn) (by simpa using hm) (by simp;omega) fun v' w' h2 h3 h4 h5 h6=> ?_;have hs:=h3.size;simp at hs
 refine h v' w' h2 ⟨h3.os,h3.tape,h3.output,by omega,fun i hi hne=>(h3.block i (by simp;omega) hne).trans (Below.heap_alloc W _ i hi)⟩ (by omega) ?_ ?_ (h6 (by simp))
 ·rcases h4 with h4|h4
  ·exact .inl h4
  ·right;rw [h4];simp
 ·exact((Below.refl base W).alloc hbase _).trans h5
end
def KeepX (z:Nat) (X:Nat→Prop) (A B:World) :Prop:=A.heap.size≤B.heap.size∧∀(b:Nat) (cs:Array Value) (t:TypeId) (fr:Nat×Nat),b<z→¬X b→A.heap[b]? =some (.cells cs t fr)→B.heap[b]? =some (.cells cs t fr)
section
variable {z:Nat} {X:Nat→Prop} {A B C:World}
theorem keepX_t (h:KeepX z X A B) (k:KeepX z X B C) :KeepX z X A C:=⟨Nat.le_trans h.1 k.1,fun b cs t fr hz hx hb=>k.2 b cs t fr hz hx (h.2 b cs t fr hz hx hb)⟩
theorem keepX_b (W:World) (l:Nat) (o o':Obj) (h:W.heap[l]? =some o) (hc:o.isCells=false) :KeepX z X W (W.putObj l o'):=by
 refine⟨(grownBy_putObj' W l o').size,fun b cs t fr _ _ hb=> ?_⟩
 have hne:b≠l:=by
  rintro rfl;rw [h] at hb
  cases hb
  simp [Obj.isCells] at hc
 rw [World.putObj_heap_other hne];exact hb
theorem KeepX.refl (W:World) :KeepX z X W W:=⟨Nat.le_refl _,fun _ _ _ _ _ _ h=>h⟩
theorem KeepX.of_below (h:Below A.heap.size A B) :KeepX z X A B:=⟨h.size,fun b cs t fr _ _ hb=>(h.block b (lB hb)).trans hb⟩
theorem KeepX.set (h:KeepX z X A B) {p:Addr} (hp:X p.block∨z≤p.block) (u:Value) :KeepX z X A (B.setCell p u):=
 keepX_t h ⟨by simp [World.setCell],fun b cs t fr hz hx hb=>by
  rw [Below.heap_setCell _ _ _ _ (by
   rintro rfl;rcases hp with hp|hp
   ·exact hx hp
   ·omega)]
  exact hb⟩
theorem KeepX.grown (h:KeepX z X A B) {row:Option Nat} (hg:B.grownBy C row) (hr: ∀b,row=some b→z≤b) :KeepX z X A C:=
 keepX_t h ⟨hg.size,fun b cs t fr hz hx hb=>(hg.block b (lB hb) (fun e=>by have:=hr b e.symm;omega)).trans hb⟩
theorem KeepX.cell (h:KeepX z X A B) {b o:Nat} {v:Value} (hz:b<z) (hx: ¬X b) (hc:A.cell? ⟨b,o,none⟩ =some v) :B.cell? ⟨b,o,none⟩ =some v:=by
 obtain⟨ob,h1,h2⟩:=cells_of_cell hc
 cases ob with
 |cells cs t fr=>exact(World.cell?_of_block ((h.2 b cs t fr hz hx h1).trans h1.symm)).trans hc
 |_=>simp [Obj.isCells] at h2
theorem row_grown {row:Option Nat} {b:Nat} {cs:Array Value} {t:TypeId} {fr:Nat×Nat} (h:A.heap[b]? =some (.cells cs t fr)) (hg:A.grownBy B row) (hr: ∀r,row=some r→∃o:Obj,A.heap[r]? =some o∧o.isCells=false) :B.heap[b]? =some (.cells cs t fr):=
 (grownBy_keeps_cells hg hr h rfl).trans h
theorem own_grown {α:Type} {size base e:Nat} {E:Enc α size} {v:Value} {l:List α} {row:Option Nat} (h:Own A base e E v l) (hg:A.grownBy B row) (hr: ∀r,row=some r→∃o:Obj,A.heap[r]? =some o∧o.isCells=false) :Own B base e E v l:=
 h.of_block fun g hv=>by
  rcases h with ⟨rfl,_⟩ | ⟨g1,o1,c1,u1,rfl,_,hh1,_⟩
  ·cases hv
  ·have:g1=g:=by simpa [Value.ownBlock] using hv
   subst this;exact grownBy_keeps_cells hg hr hh1 rfl
end
def SlX (w:World) (z:Nat) (X:Nat→Prop) (A:Option Addr) (es:List Int) :Prop:=es= []∨∃b off,A=some ⟨b,off,none⟩∧b<z∧¬X b∧∀i x,es[i]? =some x→w.cell? ⟨b,off+i,none⟩ =some (.int .i64 x)
theorem SlX.keep {w w':World} {z:Nat} {X:Nat→Prop} {A:Option Addr} {es:List Int} (h:SlX w z X A es) (k:KeepX z X w w') :SlX w' z X A es:=by
 rcases h with h| ⟨b,off,rfl,hz,hx,hc⟩
 ·exact .inl h
 ·exact .inr ⟨b,off,rfl,hz,hx,fun i x hi=>k.cell hz hx (hc i x hi)⟩
theorem SlX.below {w w':World} {z:Nat} {X:Nat→Prop} {A:Option Addr} {es:List Int} (h:SlX w z X A es) (hb:Below z w w') :SlX w' z X A es:=by
 rcases h with h| ⟨b,off,rfl,hz,hx,hc⟩
 ·exact .inl h
 ·exact .inr ⟨b,off,rfl,hz,hx,fun i x hi=>(hb.cell (p:=⟨b,off+i,none⟩) hz).trans (hc i x hi)⟩
theorem SlX.of {w:World} {B z:Nat} {X:Nat→Prop} {A:Option Addr} {es:List Int} (h:Sl w B encZ A es) (hB:B≤z) (hX: ∀b,b<B→¬X b) :SlX w z X A es:=by
 rcases h with h| ⟨b,off,rfl,hb,hc⟩
 ·exact .inl h
 ·refine .inr ⟨b,off,rfl,by omega,hX b hb,fun i x hi=> ?_⟩
  have:=hc i x hi 0 (.int .i64 x) rfl
  simpa using this
theorem SlX.at_ {w:World} {z:Nat} {X:Nat→Prop} {A:Option Addr} {es:List Int} (h:SlX w z X A es) {i:Nat} (hi:i<es.length) : ∃b off,A=some ⟨b,off,none⟩∧b<z∧w.cell? ⟨b,off+i,none⟩ =some (.int .i64 es[i]):=by
 rcases h with h| ⟨b,off,rfl,hz,hx,hc⟩
 ·subst h;simp at hi
 ·exact⟨b,off,rfl,hz,hc i _ (List.getElem?_eq_getElem hi)⟩
section
attribute [local go_sem] Oper.semAt_some
theorem fold_Cap (w:World) (n k:Int) (hn0:0≤n) (hn:n≤9223372036854775807) (hk:1≤k) (hk2:k≤9223372036854775807) :Calls Tryz.prog 126 #[.int .i64 n,.int .i64 k] w fun e w'=>e=.returned (.int .i64 (n / k))∧Below w.heap.size w w':=by
 have HD:=LH (show divOf n k= (n / k,true) by simp only [divOf];rw [if_neg (by omega)])
 go_enter Tryz.func126,Tryz.ntmps126
 go_wp2_with fail;refine(reckon_Div _ n k hn hk2).mono ?_;rintro e w1 ⟨rfl,hb1⟩;have B1:Below w.heap.size w w1:=Below.then_ bE hb1;have s1:=B1.size;rw [HD.out];unfold okV;go_wp2_with fail;go_ret;exact⟨rfl,bE⟩
theorem press_may (w:World) (k:Int) (h1:1≤k) (h2:k≤1048576) :Calls Tryz.prog 182 #[.int .i64 k] w fun e w'=>e=.returned (.bool true)∧Below w.heap.size w w':=by
 have h3:decide (k≤1048576) =true:=by simpa using h2
 go_enter Tryz.func182,Tryz.ntmps182
 go_wp2_with fail;go_ret;exact⟨ret_bool (by simp [h2]),bE⟩
theorem press_wrong (w:World) (g:Nat) (k:Int) (h1:1≤k) (h2:k≤1048576) :Calls Tryz.prog 129 #[.pointer (some ⟨g,0,none⟩),.int .i64 k] w fun e w'=>e=.returned (.int .i64 0)∧Below w.heap.size w w':=by
 go_enter Tryz.func129,Tryz.ntmps129
 go_wp2_with fail;refine(press_may _ k h1 h2).mono ?_;rintro e w1 ⟨rfl,hb1⟩;have B1:Below w.heap.size w w1:=Below.then_ bE hb1;have s1:=B1.size;go_wp2_with fail;go_ret;exact⟨rfl,bE⟩
def heavy (l:Int) (most:Int) (x:Nd) :Bool:=(kidsOf l x.1).2.2 && decide (most<x.2)
def lightOf (l:Int) (r:List Nd) (k:Int) :Bool:= !r.any (heavy l (sumR r / k))
theorem lt_of_cell {W:World} {b o:Nat} {v:Value} (h:W.cell? ⟨b,o,none⟩ =some v) :b<W.heap.size:=by
 rcases Nat.lt_or_ge b W.heap.size with h'|h'
 ·exact h'
 ·simp [World.cell?,Array.getElem?_eq_none h'] at h
theorem press_Light (w:World) (g K l:Nat) (r:List Nd) (F:Nat→Prop) (k:Int) (hP:PoolAt w g K l r F) (h1:1≤k) (h2:k≤1048576) (hr:r.length≤67108864) :
 Calls Tryz.prog 58 #[.pointer (some ⟨g,0,none⟩),.int .i64 k] w fun e w'=>e=.returned (.bool (lightOf l r k))∧Below w.heap.size w w':=by
 have hs0:=sumR_nonneg hP.fits.roll;have hs1:=hP.fits.sum;have HP:=LH hP;clear hP;refine(callsIn_wide (n:=3)).1 ?_;refine callsIn_of_wp_marks Tryz.func58 rfl trivial ?_ rfl;simp only [Tryz.ntmps58,List.size_toArray,List.length_cons,List.length_nil,Nat.reduceAdd,Nat.reduceSub,Array.replicate_succ,Array.replicate_zero,List.push_toArray,List.append_toArray,List.nil_append,List.cons_append]
 gi_wp2_with fail
 refine⟨trivial,?_⟩;refine(callsIn_wide.2 (press_wrong _ g k h1 h2)).mono ?_;rintro e w1 ⟨rfl,hb1⟩;have B1:Below w.heap.size w w1:=Below.then_ bE hb1;have s1:=B1.size;have z1_0:w.heap.size<w1.heap.size:=by have:=hb1.size;(try simp at this);omega
 have y1_0:w.heap.size≤w1.heap.size:=Nat.le_of_lt z1_0;have c1_0:=czB hb1 (w.heap.size);have f1_0:=fzB hb1 (w.heap.size);have z1_1:w.heap.size+1<w1.heap.size:=by have:=hb1.size;(try simp at this);omega
 have y1_1:w.heap.size+1≤w1.heap.size:=Nat.le_of_lt z1_1;have c1_1:=czB hb1 (w.heap.size+1);have f1_1:=fzB hb1 (w.heap.size+1);have P1:=LH (HP.out.below B1)
 gi_wp2_with fail
 refine⟨trivial,?_⟩;refine(callsIn_wide.2 (pool_Total _ g K l r F P1.out)).mono ?_;rintro e w2 ⟨rfl,hb2⟩;have B2:Below w.heap.size w w2:=Below.then_ bE hb2;have s2:=B2.size;have z2_0:w.heap.size<w2.heap.size:=by have:=hb2.size;(try simp at this);omega
 have y2_0:w.heap.size≤w2.heap.size:=Nat.le_of_lt z2_0;have c2_0:=czB hb2 (w.heap.size);have f2_0:=fzB hb2 (w.heap.size);have z2_1:w.heap.size+1<w2.heap.size:=by have:=hb2.size;(try simp at this);omega
 have y2_1:w.heap.size+1≤w2.heap.size:=Nat.le_of_lt z2_1;have c2_1:=czB hb2 (w.heap.size+1);have f2_1:=fzB hb2 (w.heap.size+1);have P2:=LH (HP.out.below B2)
 gi_wp2_with fail
 refine⟨trivial,?_⟩;refine(callsIn_wide.2 (fold_Cap _ (sumR r) k hs0 (by omega) h1 (by omega))).mono ?_;rintro e w3 ⟨rfl,hb3⟩;have B3:Below w.heap.size w w3:=Below.then_ bE hb3;have s3:=B3.size;have z3_0:w.heap.size<w3.heap.size:=by have:=hb3.size;(try simp at this);omega
 have y3_0:w.heap.size≤w3.heap.size:=Nat.le_of_lt z3_0;have c3_0:=czB hb3 (w.heap.size);have f3_0:=fzB hb3 (w.heap.size);have z3_1:w.heap.size+1<w3.heap.size:=by have:=hb3.size;(try simp at this);omega
 have y3_1:w.heap.size+1≤w3.heap.size:=Nat.le_of_lt z3_1;have c3_1:=czB hb3 (w.heap.size+1);have f3_1:=fzB hb3 (w.heap.size+1);have P3:=LH (HP.out.below B3)
 gi_wp2_with fail
 refine⟨trivial,?_⟩;refine(callsIn_wide.2 (pool_Each _ g)).mono ?_;rintro e w4 ⟨rfl,rfl⟩
 gi_wp2_with fail
 have hB0:Below w.heap.size w ((w3.alloc (.cells #[.int .i64 (sumR r / k)] 3)).alloc (.cells #[.pointer (some ⟨g,0,none⟩)] 68)):=bE;have kb:=heap_new_at (w3.alloc (.cells #[.int .i64 (sumR r / k)] 3)) (.cells #[.pointer (some ⟨g,0,none⟩)] 68) (w3.heap.size+1) (by simp);have x0: ((w3.alloc (.cells #[.int .i64 (sumR r / k)] 3)).alloc (.cells #[.pointer (some ⟨g,0,none⟩)] 68)).cell? ⟨w.heap.size,0,none⟩ =some (.pointer (some ⟨g,0,none⟩)):=by go_simp
 have x1: ((w3.alloc (.cells #[.int .i64 (sumR r / k)] 3)).alloc (.cells #[.pointer (some ⟨g,0,none⟩)] 68)).cell? ⟨w.heap.size+1,0,none⟩ =some (.bool false):=by go_simp
 have x2: ((w3.alloc (.cells #[.int .i64 (sumR r / k)] 3)).alloc (.cells #[.pointer (some ⟨g,0,none⟩)] 68)).cell? ⟨w3.heap.size,0,none⟩ =some (.int .i64 (sumR r / k)):=by go_simp
 have x3: ((w3.alloc (.cells #[.int .i64 (sumR r / k)] 3)).alloc (.cells #[.pointer (some ⟨g,0,none⟩)] 68)).frozen? ⟨w.heap.size+1,0,none⟩ =false:=by go_simp
 have zz:w.heap.size+1<w3.heap.size:=z3_1;generalize (w3.alloc (.cells #[.int .i64 (sumR r / k)] 3)).alloc (.cells #[.pointer (some ⟨g,0,none⟩)] 68) =W0 at hB0 kb x0 x1 x2 x3⊢;clear P1 P2 P3 hb1 hb2 hb3 B1 B2 B3 s1 s2 s3 z1_0 y1_0 c1_0 f1_0 z1_1 y1_1 c1_1 f1_1 z2_0 y2_0 c2_0 f2_0 z2_1 y2_1 c2_1 f2_1 z3_0 y3_0 c3_0 f3_0 z3_1 y3_1 c3_1 f3_1;have zs:=hB0.size
 refine wpIn_rangeFunc_ownG rfl (by decide) (gf:=183) (lb:= #[.pointer (some ⟨w3.heap.size+1,0,none⟩)]) rfl trivial (enters_of Tryz.func183 (by kernel_rfl) rfl)
  (each_stops (3 - 1) (w3.heap.size+1) g K l r F W0 (by decide) kb (HP.out.below hB0) hr) keepN_t (fun W q o o' _ h hc _=>keepN_b W q o o' h hc) (Below.refl _ _) (fun _=>rfl)
  (fun pre W=>((pre.any (heavy l (sumR r / k)) =false)∧W.cell? ⟨w.heap.size,0,none⟩ =some (.pointer (some ⟨g,0,none⟩))∧W.cell? ⟨w.heap.size+1,0,none⟩ =some (.bool false)∧W.cell? ⟨w3.heap.size,0,none⟩ =some (.int .i64 (sumR r / k))∧W.frozen? ⟨w.heap.size+1,0,none⟩ =false)∧Below w.heap.size w W)
  (fun c pre W=>(c=.ret∧pre.any (heavy l (sumR r / k)) =true∧W.cell? ⟨w.heap.size+1,0,none⟩ =some (.bool false))∧Below w.heap.size w W)
  (OwnFrom.and (Own.from (fun s A B row hs hg hr=>⟨hs.1,cell_kept hs.2.1 hg hr,cell_kept hs.2.2.1 hg hr,cell_kept hs.2.2.2.1 hg hr,(frozen_kept hs.2.2.1 hg hr).trans hs.2.2.2.2⟩) _) (ownFrom_below (Nat.le_refl _) zs))
  (fun c=>OwnFrom.and (Own.from (fun s A B row hs hg hr=>⟨hs.1,hs.2.1,cell_kept hs.2.2 hg hr⟩) _) (ownFrom_below (Nat.le_refl _) zs))
  ⟨⟨rfl,x0,x1,x2,x3⟩,hB0⟩
  (fun x=>{tmps:= #[.pointer (some ⟨g,0,none⟩),.int .i64 k,.pointer (some ⟨w.heap.size,0,none⟩),undef,.pointer (some ⟨w.heap.size+1,0,none⟩),.pointer (some ⟨w3.heap.size,0,none⟩),.int .i64 x.1,.int .i64 x.2,undef,undef,undef,
    .pointer (some ⟨g,0,none⟩),.int .i64 k,.int .i64 0,.bool false,.pointer (some ⟨g,0,none⟩),.int .i64 (sumR r),.int .i64 k,.int .i64 (sumR r / k),.pointer (some ⟨g,0,none⟩),.func (.func 183) #[] #[.pointer (some ⟨w3.heap.size+1,0,none⟩)],.int .i64 x.1,.int .i64 x.2,
    undef,undef,undef,undef,undef,undef,undef,undef,undef,undef,undef,undef,undef,undef],defers:= []}) ?assign ?body ?done ?stop
 case assign=>
  intro q x W K hK
  gi_wp2
  exact hK
 case body=>
  rintro q pre x W ⟨⟨hp,c0,c1,c2,f1⟩,hB⟩ _;have HPW:=LH (HP.out.below hB);have hk:=LH (twig_Kids · l x.1);have he:Hid (heavy l (sumR r / k) x= ((kidsOf l x.1).2.2 && decide (sumR r / k<x.2))):=LH rfl;have HPre:=LH hp;have zW:=hB.size;have zc0:=lt_of_cell c0;have zc1:=lt_of_cell c1;have HB:=LH hB;clear hp hB;generalize kidsOf l x.1=t at hk he;obtain⟨t1,t2,t3⟩:=t
  gi_wp2_with fail
  refine⟨trivial,?_⟩;refine(CallsIn.inRound q (callsIn_wide.2 (pool_L _ g K l r F HPW.out))).mono ?_;rintro e w5 ⟨rfl,hb5⟩
  gi_wp2_with fail
  refine⟨trivial,?_⟩;refine(CallsIn.inRound q (callsIn_wide.2 (hk.out _))).mono ?_;rintro e w6 ⟨rfl,hb6⟩;have hb:=hb5.trans (hb6.mono hb5.size);have hbw:=HB.out.trans (hb.mono zW);have d1:=(hb.cell (p:=⟨w.heap.size+1,0,none⟩) (by simp only;omega)).trans c1;have d0:=(hb.cell (p:=⟨w.heap.size,0,none⟩) (by simp only;omega)).trans c0;have z3:=lt_of_cell c2;have d2:=(hb.cell (p:=⟨w3.heap.size,0,none⟩) z3).trans c2;have g1:=(hb.frozen (p:=⟨w.heap.size+1,0,none⟩) (by simp only;omega)).trans f1;have KW:Hid (KeepsFrom W0.heap.size W w6):=LH ((KeepsOthers.of_grownBy (grownBy_of_below hb none) (fun _ _ h=>by cases h)).from _);have KN:=LH (KeepN.of_below hb);have HBW:=LH hbw;clear hb5 hb6 hb hbw c0 c1 c2 f1;unfold endsV
  cases t3
  ·gi_wp2_with fail
   exact⟨KW.out,KN.out,⟨by rw [List.any_append,HPre.out];simp [he.out],d0,d1,d2,g1⟩,HBW.out⟩
  ·by_cases hx:sumR r / k<x.2
   ·gi_wp2_with fail
    exact⟨KW.out.trans ((KeepsOthers.setCell _ _ _).from _),⟨rfl,by rw [List.any_append];simp [he.out,hx],World.cell?_setCell_same' _ _ _ (by rw [d1];rfl)⟩,HBW.out.setCell (p:=⟨w.heap.size+1,0,none⟩) (by simp only;omega) _⟩
   ·gi_wp2_with fail
    exact⟨KW.out,KN.out,⟨by rw [List.any_append,HPre.out];simp [he.out,hx],d0,d1,d2,g1⟩,HBW.out⟩
 case done=>
  rintro D ys W hD hys ⟨⟨hp,c0,c1,c2,f1⟩,hB⟩ hK;have hys':ys=r:=hys;rw [hys'] at hp;clear hys hys';have zc1:=lt_of_cell c1;have hl:lightOf l r k=true:=by unfold lightOf;rw [hp];rfl
  have zW:=hB.size
  gi_wp2
  have hK':=(KeepsOthers.setCell W ⟨w.heap.size+1,0,none⟩ (.bool true)).same D _ hK rfl;refine⟨by simp,.inl ⟨_,_,rfl,run_takeDeferred hK',?_⟩⟩;have hc5:=cell_kept (World.cell?_setCell_same' W ⟨w.heap.size+1,0,none⟩ (.bool true) (by rw [c1];rfl)) (grownBy_putObj' _ D (.deferred none)) (fun r e=>by cases e;exact⟨_,hK',rfl⟩);refine⟨.bool true,?_,by rw [hl],(hB.setCell (p:=⟨w.heap.size+1,0,none⟩) (by simp only;omega) _).trans (belowK_b (w:=w) (Nat.le_refl _) _ D _ _ (by omega) hK' rfl rfl)⟩;simp [results,Tryz.f58,go_sem,hc5]
 case stop=>
  rintro D c pre W hD hpre ⟨⟨rfl,hp,c1⟩,hB⟩ hK
  have hl:lightOf l r k=false:=by
   unfold lightOf;obtain⟨x,hx,hh⟩:=List.any_eq_true.1 hp;rw [List.any_eq_true.2 ⟨x,hpre.subset hx,hh⟩];rfl
  gi_wp2
  refine⟨by simp,.inl ⟨_,_,rfl,run_takeDeferred hK,?_⟩⟩;have hc5:=cell_kept c1 (grownBy_putObj' _ D (.deferred none)) (fun r e=>by cases e;exact⟨_,hK,rfl⟩);refine⟨.bool false,?_,by rw [hl],hB.trans (belowK_b (w:=w) (Nat.le_refl _) W D _ _ (by omega) hK rfl rfl)⟩;simp [results,Tryz.f58,go_sem,hc5]
end
section
open Go.RowKit
def headPost (P:Program) (ops:Array Oper) (Q:Exit→Act→World→Prop) (l:List Oper) :Exit→Act→World→Prop
 | .normal,a,w=>wpList P ops Q l a w
 | .panic c,a,w=>Q (.panic c) a w
 | .exit i,a,w=>Q (.exit i) a w
 | .goto i,a,w=>Q (.goto i) a w
 | .ret,a,w=>Q .ret a w
 | .outgrown,a,w=>Q .outgrown a w
def tailB (l:List Oper) (n:Nat) :Bool:=
 decide (n<l.length) &&
 ((List.range n).all fun i=>match l[i]? with
   |some o=>o.after.all (fun e=> !Region.binds .any e || decide (e.on<i)) && (match o.guard with|some (j,_)=>decide (j<n) |none=>true)
   |none=>false) &&
 ((List.range n).all fun i=>Region.waitsFor .any l.toArray n i || (List.range n).any fun j=>decide (i<j) && Region.waitsFor .any l.toArray j i) &&
 ((List.range l.length).all fun t=>decide (t≤n) || Region.waitsFor .any l.toArray t (t - 1)) &&
 Region.seqB .any l.toArray (l.length - n) n (Array.replicate n true ++ Array.replicate (l.length - n) false) &&
 Region.lexB .any (l.take n).toArray
section
variable {P:Program} {Q:Exit→Act→World→Prop} {l:List Oper} {n:Nat}
theorem upon_head {o:Oper} {a:Act} {K:Act→World→Prop} {r:Result Next} {ops:Array Oper} {lt:List Oper} (h:o.upon P a K (headPost P ops Q lt) r) :o.upon P a K Q r:=by
 cases r with
 |ok x w=>
  cases x with
  |enter f args=>
   refine Calls.mono h fun e w' he=> ?_
   cases e with
   |returned v=>exact he
   |panicked c=>exact he
   |outgrown=>obtain⟨a',w'',h'⟩:=he;exact⟨a',w'',h'⟩
  |_=>exact h
 |halt x w=>cases x <;> exact h
theorem any_more {ops:Array Oper} : ∀(g m:Nat) (listed:Array Bool) (a:Act) (w:World),wpAny P .any ops Q g listed a w→wpAny P .any ops Q (g+m) listed a w
 |0,0,_,_,_,h=>h
 |0,m+1,listed,a,w,h=>by
  rw [Nat.zero_add];exact⟨fun _=>h.2,fun i hi=>by rw [h.1] at hi;cases hi⟩
 |g+1,m,listed,a,w,h=>by
  rw [show g+1+m= (g+m) +1 by omega];exact⟨h.1,fun i hi=>wpOp_mono (fun a' w' h'=>any_more g m _ a' w' h') (h.2 i hi)⟩
structure HeadRel (l:List Oper) (n:Nat) (lh listed:Array Bool) :Prop where
 sh:lh.size=n
 sl:listed.size=l.length
 nl:n≤l.length
 same: ∀i,i<n→∀d,listed.getD i d=lh.getD i d
 tail: ∀t,n≤t→t<l.length→listed.getD t true=false
 down: ∀j o,j<n→l[j]? =some o→lh.getD j false=true→∀e∈o.after,Region.binds .any e=true→lh.getD e.on false=true
theorem HeadRel.set {lh listed:Array Bool} (h:HeadRel l n lh listed) {i:Nat} (hi:i<n) (hd: ∀o,l[i]? =some o→∀e∈o.after,Region.binds .any e=true→lh.getD e.on false=true) :HeadRel l n (lh.setIfInBounds i true) (listed.setIfInBounds i true):=by
 refine⟨by simp [h.sh],by simp [h.sl],h.nl,fun j hj d=> ?_,fun t ht ht'=>by rw [getD_set_ne true (by omega)];exact h.tail t ht ht',fun j o hj ho hlj e he hb=> ?_⟩
 case refine_2=>
  have up: ∀q,lh.getD q false=true→(lh.setIfInBounds i true).getD q false=true:=fun q hq=>by
   by_cases hiq:i=q
   ·subst hiq
    have:i<lh.size:=by rw [h.sh];exact hi
    simp [this]
   ·rw [getD_set_ne false hiq];exact hq
  by_cases hij:i=j
  ·subst hij
   exact up _ (hd o ho e he hb)
  ·rw [getD_set_ne false hij] at hlj
   exact up _ (h.down j o hj ho hlj e he hb)
 by_cases hij:i=j
 ·subst hij
  have h1:i<lh.size:=by rw [h.sh];exact hi
  have h2:i<listed.size:=by rw [h.sl];have:=h.nl;omega
  simp [h1,h2]
 ·rw [getD_set_ne d hij,getD_set_ne d hij]
  exact h.same j hj d
theorem wanted_head {o:Oper} {a:Act} (hg: (match o.guard with|some (j,_)=>decide (j<n) |none=>true) =true) :
 Region.wanted o (yielded (l.take n).toArray a.tmps) =Region.wanted o (yielded l.toArray a.tmps):=by
 unfold Region.wanted
 split
 ·rfl
 ·rename_i j b hj
  rw [hj] at hg;have hlt:j<n:=by simpa using hg
  simp [yielded,hlt]
theorem lift_head (hB:tailB l n=true) : ∀(f:Nat) (lh listed:Array Bool) (a:Act) (w:World),HeadRel l n lh listed→
 wpAny P .any (l.take n).toArray (headPost P l.toArray Q (l.drop n)) f lh a w→wpAny P .any l.toArray Q (f+ (l.length - n)) listed a w:=by
 simp only [tailB,Bool.and_eq_true,decide_eq_true_eq] at hB;obtain⟨⟨⟨⟨⟨hn,hhead⟩,hsink⟩,hchain⟩,hseq⟩,_⟩:=hB
 have hop: ∀i,i<n→∃o,l[i]? =some o∧(∀e∈o.after,Region.binds .any e=true→e.on<i)∧(match o.guard with|some (j,_)=>decide (j<n) |none=>true) =true:=by
  intro i hi;have h1:=List.all_eq_true.1 hhead i (List.mem_range.2 hi)
  split at h1
  ·rename_i o ho
   simp only [Bool.and_eq_true] at h1;refine⟨o,ho,fun e he hb=> ?_,h1.2⟩;have h2:=Array.all_eq_true'.1 h1.1 e he;simp only [hb,Bool.not_true,Bool.false_or,decide_eq_true_eq] at h2;exact h2
  ·cases h1
 have hpre: ∀i,i<n→(l.take n).toArray[i]? =l.toArray[i]? :=by
  intro i hi;simp [hi]
 have done: ∀(f:Nat) (lh listed:Array Bool) (a:Act) (w:World),HeadRel l n lh listed→(∀i,i<n→lh.getD i true=true)→headPost P l.toArray Q (l.drop n) .normal a w→
  wpAny P .any l.toArray Q (f+ (l.length - n)) listed a w:=by
  intro f lh listed a w hr hall h
  have he:listed=Array.replicate n true ++ Array.replicate (l.length - n) false:=by
   apply Array.ext
   ·simp [hr.sl];omega
   ·intro i h1 h2
    by_cases hi:i<n
    ·have e1:=hr.same i hi true
     rw [hall i hi] at e1;simp [h1] at e1
     simp [hi,e1]
    ·have e1:=hr.tail i (by omega) (by rw [←hr.sl];exact h1)
     simp [h1] at e1
     rw [Array.getElem_append_right (by simp;omega)];simp [e1]
  subst he;rw [Nat.add_comm];refine any_more _ f _ a w ?_;have:=wpAny_of_seq (md:=.any) (P:=P) (Q':=Q) (ops:=l.toArray) (l.drop n) n _ a w (fun j=>by simp [List.getElem?_drop]) (by simpa using hseq) h
  simpa using this
 have least: ∀(lh:Array Bool),lh.size=n→(¬∀i,i<n→lh.getD i true=true)→Region.ready .any (l.take n).toArray lh≠ []:=by
  intro lh hsz hnot hnil
  have hex: ∃i,i<n∧lh.getD i true=false:=by
   refine Classical.byContradiction fun hc=>hnot fun i hi=> ?_
   cases hv:lh.getD i true with
   |true=>rfl
   |false=>exact absurd ⟨i,hi,hv⟩ hc
  have key: ∀m i,i≤m→i<n→lh.getD i true=false→False:=by
   intro m
   induction m using Nat.strongRecOn with
   |_ m ih=>
    intro i him hi hv;obtain⟨o,ho,he,_⟩:=hop i hi
    have hin:i∈Region.ready .any (l.take n).toArray lh:=by
     refine mem_ready.2 ⟨hv,o,by rw [hpre i hi];simpa using ho,fun e hem hb=> ?_⟩;have hlt:=he e hem hb
     cases hv2:lh.getD e.on false with
     |true=>rfl
     |false=>
      exfalso
      have:lh.getD e.on true=false:=by
       have:e.on<lh.size:=by omega
       simp [this] at hv2⊢
       exact hv2
      exact ih e.on (by omega) e.on (Nat.le_refl _) (by omega) this
    rw [hnil] at hin
    cases hin
  obtain⟨i,hi,hv⟩:=hex;exact key i i (Nat.le_refl _) hi hv
 have inHead: ∀(lh listed:Array Bool),HeadRel l n lh listed→(¬∀i,i<n→lh.getD i true=true)→∀i∈Region.ready .any l.toArray listed,i<n:=by
  intro lh listed hr hnot i hi;obtain⟨hu,o,ho,hall⟩:=mem_ready.1 hi;rcases Nat.lt_or_ge i n with hlt|hge
  ·exact hlt
  ·exfalso
   have hil:i<l.length:=by
    have:=(Array.getElem?_eq_some_iff.1 ho).1
    simpa using this
   by_cases hin:i=n
   ·subst hin
    have done_: ∀m j,j<i→i - j≤m→lh.getD j false=true:=by
     intro m
     induction m with
     |zero=>intro j hj hm;omega
     |succ m ih=>
      intro j hj hm;have hs:=List.all_eq_true.1 hsink j (List.mem_range.2 hj);simp only [Bool.or_eq_true] at hs;rcases hs with hs|hs
      ·obtain⟨o',ho',e,he,hb,hon⟩:=Region.waitsFor_spec hs
       have:o'=o:=Option.some.inj (ho'.symm.trans ho);subst this;have h1:=hall e he hb;rw [hon,hr.same j hj false] at h1;exact h1
      ·obtain⟨j',hj',hw⟩:=List.any_eq_true.1 hs
       simp only [Bool.and_eq_true,decide_eq_true_eq] at hw;have hlt:=List.mem_range.1 hj';obtain⟨o',ho',e,he,hb,hon⟩:=Region.waitsFor_spec hw.2;have h1:=hr.down j' o' hlt (by simpa using ho') (ih j' hlt (by omega)) e he hb;rw [hon] at h1;exact h1
    refine hnot fun j hj=> ?_;have h1:=done_ i j hj (by omega);have:j<lh.size:=by rw [hr.sh];exact hj
    simp [this] at h1⊢
    exact h1
   ·have h1:=List.all_eq_true.1 hchain i (List.mem_range.2 hil)
    simp only [Bool.or_eq_true,decide_eq_true_eq] at h1;rcases h1 with h1|h1
    ·omega
    ·obtain⟨o',ho',e,he,hb,hon⟩:=Region.waitsFor_spec h1
     have:o'=o:=Option.some.inj (ho'.symm.trans ho);subst this;have h2:=hall e he hb;have h3:=hr.tail (i - 1) (by omega) (by omega);rw [hon] at h2;have:i - 1<listed.size:=by rw [hr.sl];omega
     simp [this] at h2 h3
     rw [h2] at h3
     cases h3
 intro f
 induction f with
 |zero=>
  intro lh listed a w hr h;by_cases hall: ∀i,i<n→lh.getD i true=true
  ·exact done 0 lh listed a w hr hall h.2
  ·exact absurd h.1 (least lh hr.sh hall)
 |succ f ih=>
  intro lh listed a w hr h;by_cases hall: ∀i,i<n→lh.getD i true=true
  ·refine done (f+1) lh listed a w hr hall (h.1 ?_)
   cases hc:Region.ready .any (l.take n).toArray lh with
   |nil=>rfl
   |cons i r=>
    exfalso
    have hi:i∈Region.ready .any (l.take n).toArray lh:=by rw [hc];simp
    obtain⟨hu,o,ho,_⟩:=mem_ready.1 hi
    have hin:i<n:=by
     have:=(Array.getElem?_eq_some_iff.1 ho).1;simp at this
     omega
    rw [hall i hin] at hu
    cases hu
  ·rw [show f+1+ (l.length - n) = (f+ (l.length - n)) +1 by omega]
   refine⟨fun h0=> ?_,fun i hi=> ?_⟩
   ·exfalso
    refine least lh hr.sh hall ?_
    cases hc:Region.ready .any (l.take n).toArray lh with
    |nil=>rfl
    |cons i r=>
     exfalso
     have hi:i∈Region.ready .any (l.take n).toArray lh:=by rw [hc];simp
     obtain⟨hu,o,ho,hedge⟩:=mem_ready.1 hi
     have hin:i<n:=by
      have:=(Array.getElem?_eq_some_iff.1 ho).1;simp at this
      omega
     obtain⟨o',ho',he',_⟩:=hop i hin
     have:i∈Region.ready .any l.toArray listed:=by
      rw [hpre i hin] at ho;have hoo:o=o':=Option.some.inj (ho.symm.trans (by simpa using ho'));subst hoo;exact mem_ready.2 ⟨by rw [hr.same i hin];exact hu,o,ho,fun e hem hb=>by rw [hr.same e.on (by have:=he' e hem hb;omega)];exact hedge e hem hb⟩
     rw [h0] at this
     cases this
   ·have hin:=inHead lh listed hr hall i hi
    obtain⟨hu,o,ho,hedge⟩:=mem_ready.1 hi;obtain⟨o',ho',he',hg'⟩:=hop i hin;have hoo:o=o':=Option.some.inj (ho.symm.trans (by simpa using ho'));subst hoo
    have hi':i∈Region.ready .any (l.take n).toArray lh:=
     mem_ready.2 ⟨by rw [←hr.same i hin];exact hu,o,by rw [hpre i hin];exact ho,fun e hem hb=>by rw [←hr.same e.on (by have:=he' e hem hb;omega)];exact hedge e hem hb⟩
    have hdn: ∀o,l[i]? =some o→∀e∈o.after,Region.binds .any e=true→lh.getD e.on false=true:=fun o2 ho2 e hem hb=>by
     have:o2=o:=Option.some.inj (ho2.symm.trans (by simpa using ho));subst this;rw [←hr.same e.on (by have:=he' e hem hb;omega)];exact hedge e hem hb
    have h1:=h.2 i hi';unfold wpOp at h1⊢;rw [hpre i hin] at h1;rw [ho] at h1⊢;simp only [wanted_head hg'] at h1;simp only
    split at h1
    ·rename_i hw
     rw [if_pos hw];rcases h1 with h1| ⟨h1,h2⟩
     ·left
      exact upon_head (Oper.wp_mono (fun a' w' h'=>ih _ _ a' w' (hr.set hin hdn) h') h1)
     ·right
      obtain⟨a',w',h'⟩:=h2;exact⟨h1,a',w',h'⟩
    ·rename_i hw
     rw [if_neg hw];exact ih _ _ _ _ (hr.set hin hdn) h1
theorem wp_region_tail {id:Nat} {a:Act} {w:World} {l:List Oper} (n:Nat) (hm:P.follows .mixedOrders=true) (hB:tailB l n=true)
 (h:wpQuiet P (l.take n).toArray (fun w'=>∃x,w'=ext w x) (fun a'=>∀w',(∃x,w'=ext w x)→wpList P l.toArray Q (l.drop n) a' w') (l.take n) a) : (Code.region id l.toArray true).wp P Q a w:=by
 have hB0:=hB;simp only [tailB,Bool.and_eq_true,decide_eq_true_eq] at hB;obtain⟨⟨⟨⟨⟨hn,_⟩,_⟩,_⟩,_⟩,hlex⟩:=hB;simp only [Region.lexB,Bool.and_eq_true] at hlex;refine wp_region_any hm ?_;have hlen: (l.take n).length=n:=by simp;omega
 have h1:=wpAnyQ_lex (C:=fun w'=>∃x,w'=ext w x) (md:=.any) hlex.1 (l.take n) 0 (Array.replicate (l.take n).toArray.size false) a (by simp) (by simpa using hlex.2) h;rw [List.size_toArray,hlen] at h1;have h2:=wpAny_of_quiet (Q':=headPost P l.toArray Q (l.drop n)) (fun a' w' hw' hq=>hq w' hw') n _ a {w with drawn:=w.drawn+1} ⟨⟨#[],w.drawn+1⟩,by simp [ext]⟩ h1;have h3:=lift_head hB0 n (Array.replicate n false) (Array.replicate l.length false) a _ ⟨by simp,by simp,Nat.le_of_lt hn,fun i hi d=>by simp [hi,Nat.lt_trans hi hn],fun t _ ht=>by simp [ht],fun j o hj _ hl=>by simp [hj] at hl⟩ h2;rw [show n+ (l.length - n) =l.toArray.size by simp;omega] at h3
 simpa using h3
end
end
@[go_sem] theorem run_field_conf0 (w:World) (a b c:Int) : (Instr.field 23 (.agg #[.int .i64 a,.int .i64 b,.int .i64 c]) 0).run Tryz.prog w=.ok (.int .i64 a) w:=by kernel_rfl
def isDig (l k K:Int) :Bool:=isPool K l && decide (1≤k∧k≤1048576)
def DigAt (w:World) (g K l:Nat) (k:Int) (r:List Nd) (F:Nat→Prop) :Prop:=
 1≤k∧k≤1048576∧∃p F0,F=footP g F0∧w.heap[g]? =some (.cells #[.int .i64 k,.pointer (some ⟨p,0,none⟩)] 72 (0,0))∧PoolAt w p K l r F0
theorem DigAt.keep {w w':World} {g K l:Nat} {k:Int} {r:List Nd} {F:Nat→Prop} (h:DigAt w g K l k r F) (hk: ∀b,F b→w'.heap[b]? =w.heap[b]?) :DigAt w' g K l k r F:=by
 obtain⟨h1,h2,p,F0,rfl,h3,h4⟩:=h;exact⟨h1,h2,p,F0,rfl,(hk g (.inl rfl)).trans h3,h4.keep fun q hq=>hk q (.inr hq)⟩
theorem DigAt.lt {w:World} {g K l:Nat} {k:Int} {r:List Nd} {F:Nat→Prop} (h:DigAt w g K l k r F) : ∀b,F b→b<w.heap.size:=by
 obtain⟨h1,h2,p,F0,rfl,h3,h4⟩:=h;rintro q (rfl|hq)
 ·exact lB h3
 ·exact h4.lt q hq
theorem DigAt.below {w w':World} {g K l:Nat} {k:Int} {r:List Nd} {F:Nat→Prop} (h:DigAt w g K l k r F) (hb:Below w.heap.size w w') :DigAt w' g K l k r F:=h.keep fun b hf=>hb.block b (h.lt b hf)
theorem DigAt.fits {w:World} {g K l:Nat} {k:Int} {r:List Nd} {F:Nat→Prop} (h:DigAt w g K l k r F) :Fits l r:=by
 obtain⟨h1,h2,p,F0,rfl,h3,h4⟩:=h;exact h4.fits
theorem DigAt.l_le {w:World} {g K l:Nat} {k:Int} {r:List Nd} {F:Nat→Prop} (h:DigAt w g K l k r F) :1≤l∧l≤48:=by
 obtain⟨h1,h2,p,F0,rfl,h3,h4⟩:=h;exact⟨h4.1,h4.2.1⟩
theorem pool_Kind (w:World) (g K l:Nat) (r:List Nd) (F:Nat→Prop) (h:PoolAt w g K l r F) :Calls Tryz.prog 83 #[.pointer (some ⟨g,0,none⟩)] w fun e w'=>e=.returned (.int .i64 K)∧Below w.heap.size w w':=by
 obtain⟨h1,h2,h3,p,F0,rfl,h4⟩:=h;rcases h4 with ⟨rfl,h16,hh,hd⟩ | ⟨rfl,hh,hd⟩
 ·have H:=LH hh
  clear hh hd
  go_enter Tryz.func83,Tryz.ntmps83
  go_wp2_with fail;refine(pool_isArray _ g p _ H.out).mono ?_;rintro e w1 ⟨rfl,hb1⟩;have B1:Below w.heap.size w w1:=Below.then_ bE hb1;have s1:=B1.size;go_wp2_with fail;go_ret;exact⟨rfl,bE⟩
 ·have H:=LH hh
  clear hh hd
  go_enter Tryz.func83,Tryz.ntmps83
  go_wp2_with fail;refine(pool_isArray_no _ g _ H.out).mono ?_;rintro e w1 ⟨rfl,hb1⟩;have B1:Below w.heap.size w w1:=Below.then_ bE hb1;have s1:=B1.size;go_wp2_with fail;go_ret;exact⟨rfl,bE⟩
theorem digest_New_no (w:World) (l k K:Int) (h:isDig l k K=false) :Calls Tryz.prog 21 #[.agg #[.int .i64 l,.int .i64 k,.int .i64 K]] w fun e w'=>e=.returned (.tuple #[.pointer none,.int .i64 2])∧Below w.heap.size w w':=by
 cases hp:isPool K l
 ·have HC:=LH (pool_New_no · K l hp)
  clear hp h
  go_enter Tryz.func21,Tryz.ntmps21
  go_wp2_with fail;refine(HC.out _).mono ?_;rintro e w1 ⟨rfl,hb1⟩;have B1:Below w.heap.size w w1:=Below.then_ bE hb1;have s1:=B1.size;have z1_0:w.heap.size<w1.heap.size:=by have:=hb1.size;(try simp at this);omega
  have y1_0:w.heap.size≤w1.heap.size:=Nat.le_of_lt z1_0;have c1_0:=czB hb1 (w.heap.size);have f1_0:=fzB hb1 (w.heap.size);go_wp2_with fail
  go_ret2
  exact⟨rfl,bE⟩
 ·have hk: ¬(1≤k∧k≤1048576):=by simpa [isDig,hp] using h
  have hp':=hp;simp only [isPool,decide_eq_true_eq] at hp';obtain⟨n,rfl⟩:=Int.eq_ofNat_of_zero_le (show 0≤l by omega);obtain⟨m,rfl⟩:=Int.eq_ofNat_of_zero_le (show 0≤K by omega);have HC:=LH (pool_New · m n hp);clear hp h hp';by_cases hk1:k<1
  ·clear hk
   go_enter Tryz.func21,Tryz.ntmps21
   go_wp2_with fail;refine(HC.out _).mono ?_;rintro e w1 ⟨g,F,rfl,_,_,hb1⟩;have B1:Below w.heap.size w w1:=Below.then_ bE hb1;have s1:=B1.size;have z1_0:w.heap.size<w1.heap.size:=by have:=hb1.size;(try simp at this);omega
   have y1_0:w.heap.size≤w1.heap.size:=Nat.le_of_lt z1_0;have c1_0:=czB hb1 (w.heap.size);have f1_0:=fzB hb1 (w.heap.size);go_wp2_with fail
   go_ret2
   exact⟨rfl,bE⟩
  ·have hk2:1048576<k:=by omega
   clear hk
   go_enter Tryz.func21,Tryz.ntmps21
   go_wp2_with fail;refine(HC.out _).mono ?_;rintro e w1 ⟨g,F,rfl,_,_,hb1⟩;have B1:Below w.heap.size w w1:=Below.then_ bE hb1;have s1:=B1.size;have z1_0:w.heap.size<w1.heap.size:=by have:=hb1.size;(try simp at this);omega
   have y1_0:w.heap.size≤w1.heap.size:=Nat.le_of_lt z1_0;have c1_0:=czB hb1 (w.heap.size);have f1_0:=fzB hb1 (w.heap.size);go_wp2_with fail
   go_ret2
   exact⟨rfl,bE⟩
def DigPost (K l:Nat) (k:Int) (r:List Nd) (w:World) (e:Ending) (w':World) :Prop:=∃g F,e=.returned (.tuple #[.pointer (some ⟨g,0,none⟩),.int .i64 0])∧DigAt w' g K l k r F∧(∀b,F b→w.heap.size≤b)∧Below w.heap.size w w'
theorem digest_New (w:World) (l K:Nat) (k:Int) (h:isDig l k K=true) :Calls Tryz.prog 21 #[.agg #[.int .i64 l,.int .i64 k,.int .i64 K]] w (DigPost K l k [] w):=by
 simp only [isDig,Bool.and_eq_true,decide_eq_true_eq] at h;obtain⟨hp,hk1,hk2⟩:=h;have HC:=LH (pool_New · K l hp);clear hp
 go_enter Tryz.func21,Tryz.ntmps21
 go_wp2_with fail;refine(HC.out _).mono ?_;rintro e w1 ⟨g,F,rfl,hP,hF,hb1⟩;have B1:Below w.heap.size w w1:=Below.then_ bE hb1;have s1:=B1.size;have z1_0:w.heap.size<w1.heap.size:=by have:=hb1.size;(try simp at this);omega
 have y1_0:w.heap.size≤w1.heap.size:=Nat.le_of_lt z1_0;have c1_0:=czB hb1 (w.heap.size);have f1_0:=fzB hb1 (w.heap.size);have HP:=LH hP;simp only [World.size_alloc] at hF;have HF:=LH hF;clear hP hF;go_wp2_with fail
 go_ret2
 refine⟨w1.heap.size,footP w1.heap.size F,rfl,⟨hk1,hk2,g,F,rfl,heap_new_at w1 _ _ rfl,HP.out.below ((Below.refl _ _).alloc (Nat.le_refl _) _)⟩,?_,bE⟩;rintro b (rfl|hb)
 ·exact s1
 ·have:=HF.out b hb;omega
def loadErr (l k K:Int) (r:List Nd) :Int:=if isDig l k K=false then 2 else if rightOf l r=false then 10 else if 8*k<r.length then 13 else if lightOf l r k=false then 13 else 0
theorem digest_Load_no (w:World) (l k K:Int) (A:Option Addr) (cap:Nat) (r:List Nd) (h:loadErr l k K r≠0) (hS:Sl w w.heap.size encN A r) (hI:ints r) (hn:r.length<67108864) :
 Calls Tryz.prog 19 #[.agg #[.int .i64 l,.int .i64 k,.int .i64 K],.slice A r.length cap] w fun e w'=>e=.returned (.tuple #[.pointer none,.int .i64 (loadErr l k K r)])∧Below w.heap.size w w':=by
 cases hd:isDig l k K
 ·have e1:loadErr l k K r=2:=by simp only [loadErr];rw [if_pos hd]
  rw [e1];have HC:=LH (digest_New_no · l k K hd);clear hd h e1 hS hI
  go_enter Tryz.func19,Tryz.ntmps19
  go_wp2_with fail;refine(HC.out _).mono ?_;rintro e w1 ⟨rfl,hb1⟩;have B1:Below w.heap.size w w1:=Below.then_ bE hb1;have s1:=B1.size;have z1_0:w.heap.size<w1.heap.size:=by have:=hb1.size;(try simp at this);omega
  have y1_0:w.heap.size≤w1.heap.size:=Nat.le_of_lt z1_0;have c1_0:=czB hb1 (w.heap.size);have f1_0:=fzB hb1 (w.heap.size);go_wp2_with fail
  go_ret2
  exact⟨rfl,bE⟩
 ·have hp':=hd
  simp only [isDig,isPool,Bool.and_eq_true,decide_eq_true_eq] at hp';obtain⟨n,rfl⟩:=Int.eq_ofNat_of_zero_le (show 0≤l by omega);obtain⟨m,rfl⟩:=Int.eq_ofNat_of_zero_le (show 0≤K by omega);have HC:=LH (digest_New · n m k hd);have HR:=LH (roll_Right · n A cap r · hI (by unfold maxLen;omega));have HS:=LH hS;have hpl:isPool m n=true:=by simp only [isDig,Bool.and_eq_true] at hd;exact hd.1
  obtain⟨_,hk1,hk2⟩:=hp'
  cases hr:rightOf n r
  ·have e1:loadErr n k m r=10:=by simp only [loadErr];rw [if_neg (by simp [hd]),if_pos hr]
   rw [e1];rw [hr] at HR;clear hd h e1 hS hr hI hpl
   go_enter Tryz.func19,Tryz.ntmps19
   go_wp2_with fail;refine(HC.out _).mono ?_;rintro e w1 ⟨g,F,rfl,_,_,hb1⟩;have B1:Below w.heap.size w w1:=Below.then_ bE hb1;have s1:=B1.size;have z1_0:w.heap.size<w1.heap.size:=by have:=hb1.size;(try simp at this);omega
   have y1_0:w.heap.size≤w1.heap.size:=Nat.le_of_lt z1_0;have c1_0:=czB hb1 (w.heap.size);have f1_0:=fzB hb1 (w.heap.size);go_wp2_with fail;refine(HR.out _ (HS.out.keep s1 fun p hp=>B1.cell hp)).mono ?_;rintro e w2 ⟨rfl,hb2⟩;have B2:Below w.heap.size w w2:=Below.then_ bE hb2;have s2:=B2.size;have z2_0:w.heap.size<w2.heap.size:=by have:=hb2.size;(try simp at this);omega
   have y2_0:w.heap.size≤w2.heap.size:=Nat.le_of_lt z2_0;have c2_0:=czB hb2 (w.heap.size);have f2_0:=fzB hb2 (w.heap.size);go_wp2_with fail
   go_ret2
   exact⟨rfl,bE⟩
  ·have HL:=LH (pool_Load · m n A cap r hpl hr · hI hn)
   by_cases h8:8*k<r.length
   ·have e1:loadErr n k m r=13:=by simp only [loadErr];rw [if_neg (by simp [hd]),if_neg (by simp [hr]),if_pos h8]
    rw [e1];rw [hr] at HR;clear hd h e1 hS hr hI hpl
    go_enter Tryz.func19,Tryz.ntmps19
    go_wp2_with fail;refine(HC.out _).mono ?_;rintro e w1 ⟨g,F,rfl,_,_,hb1⟩;have B1:Below w.heap.size w w1:=Below.then_ bE hb1;have s1:=B1.size;have z1_0:w.heap.size<w1.heap.size:=by have:=hb1.size;(try simp at this);omega
    have y1_0:w.heap.size≤w1.heap.size:=Nat.le_of_lt z1_0;have c1_0:=czB hb1 (w.heap.size);have f1_0:=fzB hb1 (w.heap.size);go_wp2_with fail;refine(HR.out _ (HS.out.keep s1 fun p hp=>B1.cell hp)).mono ?_;rintro e w2 ⟨rfl,hb2⟩;have B2:Below w.heap.size w w2:=Below.then_ bE hb2;have s2:=B2.size;have z2_0:w.heap.size<w2.heap.size:=by have:=hb2.size;(try simp at this);omega
    have y2_0:w.heap.size≤w2.heap.size:=Nat.le_of_lt z2_0;have c2_0:=czB hb2 (w.heap.size);have f2_0:=fzB hb2 (w.heap.size);go_wp2_with fail
    go_ret2
    exact⟨rfl,bE⟩
   ·have hl:lightOf n r k=false:=by
     cases hl:lightOf n r k
     ·rfl
     ·exact absurd (by simp only [loadErr];rw [if_neg (by simp [hd]),if_neg (by simp [hr]),if_neg h8,if_neg (by simp [hl])]) h
    have e1:loadErr n k m r=13:=by simp only [loadErr];rw [if_neg (by simp [hd]),if_neg (by simp [hr]),if_neg h8,if_pos hl]
    rw [e1];rw [hr] at HR;have HLF:=LH hl;clear hd h e1 hS hr hI hpl hl
    go_enter Tryz.func19,Tryz.ntmps19
    go_wp2_with fail;refine(HC.out _).mono ?_;rintro e w1 ⟨g,F,rfl,_,_,hb1⟩;have B1:Below w.heap.size w w1:=Below.then_ bE hb1;have s1:=B1.size;have z1_0:w.heap.size<w1.heap.size:=by have:=hb1.size;(try simp at this);omega
    have y1_0:w.heap.size≤w1.heap.size:=Nat.le_of_lt z1_0;have c1_0:=czB hb1 (w.heap.size);have f1_0:=fzB hb1 (w.heap.size);go_wp2_with fail;refine(HR.out _ (HS.out.keep s1 fun p hp=>B1.cell hp)).mono ?_;rintro e w2 ⟨rfl,hb2⟩;have B2:Below w.heap.size w w2:=Below.then_ bE hb2;have s2:=B2.size;have z2_0:w.heap.size<w2.heap.size:=by have:=hb2.size;(try simp at this);omega
    have y2_0:w.heap.size≤w2.heap.size:=Nat.le_of_lt z2_0;have c2_0:=czB hb2 (w.heap.size);have f2_0:=fzB hb2 (w.heap.size);go_wp2_with fail;refine(HL.out _ (HS.out.keep s2 fun p hp=>B2.cell hp)).mono ?_;rintro e w3 ⟨gp,Fp,rfl,hP,_,hb3⟩;have B3:Below w.heap.size w w3:=Below.then_ bE hb3;have s3:=B3.size;have z3_0:w.heap.size<w3.heap.size:=by have:=hb3.size;(try simp at this);omega
    have y3_0:w.heap.size≤w3.heap.size:=Nat.le_of_lt z3_0;have c3_0:=czB hb3 (w.heap.size);have f3_0:=fzB hb3 (w.heap.size);have KP:=LH hP;clear hP;go_wp2_with fail;refine(press_Light _ gp m n r Fp k KP.out hk1 hk2 (by omega)).mono ?_;rintro e w4 ⟨rfl,hb4⟩;have B4:Below w.heap.size w w4:=Below.then_ bE hb4;have s4:=B4.size;have z4_0:w.heap.size<w4.heap.size:=by have:=hb4.size;(try simp at this);omega
    have y4_0:w.heap.size≤w4.heap.size:=Nat.le_of_lt z4_0;have c4_0:=czB hb4 (w.heap.size);have f4_0:=fzB hb4 (w.heap.size);rw [HLF.out];go_wp2_with fail
    go_ret2
    exact⟨rfl,bE⟩
theorem digest_Load (w:World) (l K:Nat) (k:Int) (A:Option Addr) (cap:Nat) (r:List Nd) (h:loadErr l k K r=0) (hS:Sl w w.heap.size encN A r) (hI:ints r) (hn:r.length<67108864) :
 Calls Tryz.prog 19 #[.agg #[.int .i64 l,.int .i64 k,.int .i64 K],.slice A r.length cap] w (DigPost K l k r w):=by
 have hd:isDig l k K=true:=by
  cases hd:isDig l k K
  ·simp only [loadErr] at h;rw [if_pos hd] at h;cases h
  ·rfl
 have hr:rightOf l r=true:=by
  cases hr:rightOf l r
  ·simp only [loadErr] at h;rw [if_neg (by simp [hd]),if_pos hr] at h;cases h
  ·rfl
 have h8: ¬8*k<r.length:=by
  intro h8;simp only [loadErr] at h;rw [if_neg (by simp [hd]),if_neg (by simp [hr]),if_pos h8] at h
  cases h
 have hl:lightOf l r k=true:=by
  cases hl:lightOf l r k
  ·simp only [loadErr] at h;rw [if_neg (by simp [hd]),if_neg (by simp [hr]),if_neg h8,if_pos hl] at h;cases h
  ·rfl
 have HC:=LH (digest_New · l K k hd);have HR:=LH (roll_Right · l A cap r · hI (by unfold maxLen;omega));have HS:=LH hS;have hpl:isPool K l=true:=by simp only [isDig,Bool.and_eq_true] at hd;exact hd.1
 have HL:=LH (pool_Load · K l A cap r hpl hr · hI hn);simp only [isDig,Bool.and_eq_true,decide_eq_true_eq] at hd;obtain⟨_,hk1,hk2⟩:=hd;rw [hr] at HR;have HLF:=LH hl;clear h hS hr hI hpl hl
 go_enter Tryz.func19,Tryz.ntmps19
 go_wp2_with fail;refine(HC.out _).mono ?_;rintro e w1 ⟨g,F,rfl,_,_,hb1⟩;have B1:Below w.heap.size w w1:=Below.then_ bE hb1;have s1:=B1.size;have z1_0:w.heap.size<w1.heap.size:=by have:=hb1.size;(try simp at this);omega
 have y1_0:w.heap.size≤w1.heap.size:=Nat.le_of_lt z1_0;have c1_0:=czB hb1 (w.heap.size);have f1_0:=fzB hb1 (w.heap.size);go_wp2_with fail;refine(HR.out _ (HS.out.keep s1 fun p hp=>B1.cell hp)).mono ?_;rintro e w2 ⟨rfl,hb2⟩;have B2:Below w.heap.size w w2:=Below.then_ bE hb2;have s2:=B2.size;have z2_0:w.heap.size<w2.heap.size:=by have:=hb2.size;(try simp at this);omega
 have y2_0:w.heap.size≤w2.heap.size:=Nat.le_of_lt z2_0;have c2_0:=czB hb2 (w.heap.size);have f2_0:=fzB hb2 (w.heap.size);go_wp2_with fail;refine(HL.out _ (HS.out.keep s2 fun p hp=>B2.cell hp)).mono ?_;rintro e w3 ⟨gp,Fp,rfl,hP,hF,hb3⟩;have B3:Below w.heap.size w w3:=Below.then_ bE hb3;have s3:=B3.size;have z3_0:w.heap.size<w3.heap.size:=by have:=hb3.size;(try simp at this);omega
 have y3_0:w.heap.size≤w3.heap.size:=Nat.le_of_lt z3_0;have c3_0:=czB hb3 (w.heap.size);have f3_0:=fzB hb3 (w.heap.size);have KP:=LH hP;have KF:=LH hF;clear hP hF;go_wp2_with fail;refine(press_Light _ gp K l r Fp k KP.out hk1 hk2 (by omega)).mono ?_;rintro e w4 ⟨rfl,hb4⟩;have B4:Below w.heap.size w w4:=Below.then_ bE hb4;have s4:=B4.size;have z4_0:w.heap.size<w4.heap.size:=by have:=hb4.size;(try simp at this);omega
 have y4_0:w.heap.size≤w4.heap.size:=Nat.le_of_lt z4_0;have c4_0:=czB hb4 (w.heap.size);have f4_0:=fzB hb4 (w.heap.size);rw [HLF.out];have KP4:=LH (KP.out.below hb4);clear KP;go_wp2_with fail
 go_ret2
 refine⟨w4.heap.size,footP w4.heap.size Fp,rfl,⟨hk1,hk2,gp,Fp,rfl,heap_new_at w4 _ _ rfl,KP4.out.below ((Below.refl _ _).alloc (Nat.le_refl _) _)⟩,?_,bE⟩;rintro b (rfl|hb)
 ·exact s4
 ·have:=KF.out b hb;omega
theorem digest_N (w:World) (g K l:Nat) (k:Int) (r:List Nd) (F:Nat→Prop) (h:DigAt w g K l k r F) :Calls Tryz.prog 6 #[.pointer (some ⟨g,0,none⟩)] w fun e w'=>e=.returned (.int .i64 (sumR r))∧Below w.heap.size w w':=by
 obtain⟨h1,h2,p,F0,rfl,hh,hP⟩:=h;have c:=bC hh;have z:=lB hh;have HP:=LH hP;clear hh hP
 go_enter Tryz.func6,Tryz.ntmps6
 go_wp2_with fail;refine(pool_Total _ p K l r F0 HP.out).mono ?_;rintro e w1 ⟨rfl,hb1⟩;have B1:Below w.heap.size w w1:=Below.then_ bE hb1;have s1:=B1.size;go_wp2_with fail;go_ret;exact⟨rfl,bE⟩
theorem digest_Nodes (w:World) (g K l:Nat) (k:Int) (r:List Nd) (F:Nat→Prop) (h:DigAt w g K l k r F) (hn:r.length≤67108864) :Calls Tryz.prog 27 #[.pointer (some ⟨g,0,none⟩)] w (OwnPost 77 encN r w):=by
 obtain⟨h1,h2,p,F0,rfl,hh,hP⟩:=h;have c:=bC hh;have z:=lB hh;have HP:=LH hP;clear hh hP
 go_enter Tryz.func27,Tryz.ntmps27
 go_wp2_with fail;refine(pool_Snap _ p K l r F0 HP.out hn).mono ?_;rintro e w1 ⟨v,rfl,ho,hb⟩;have HO:=LH ho;clear ho;go_wp2_with fail;go_ret;exact⟨_,rfl,HO.out,hb⟩
theorem digest_Conf (w:World) (g K l:Nat) (k:Int) (r:List Nd) (F:Nat→Prop) (h:DigAt w g K l k r F) :Calls Tryz.prog 26 #[.pointer (some ⟨g,0,none⟩)] w fun e w'=>e=.returned (.agg #[.int .i64 l,.int .i64 k,.int .i64 K])∧Below w.heap.size w w':=by
 obtain⟨h1,h2,p,F0,rfl,hh,hP⟩:=h;have c:=bC hh;have z:=lB hh;have hPA:=hP.below ((Below.refl w.heap.size w).alloc (Nat.le_refl _) (.cells #[.int .i64 0,.int .i64 0,.int .i64 0] 23));have HP:=LH hPA;clear hh hP hPA
 go_enter Tryz.func26,Tryz.ntmps26
 go_wp2_with fail;refine wp_region_tail 18 (by kernel_rfl) (by kernel_rfl) ?_;simp only [List.take_succ_cons,List.take_zero,List.drop_succ_cons,List.drop_zero]
 repeat (go_big_quiet_step (first| (go_at_call 65;exact quiet_ext (pool_L _ p K l r F0 (HP.out.below (ext_below _ _)))) | (go_at_call 83;exact quiet_ext (pool_Kind _ p K l r F0 (HP.out.below (ext_below _ _))))))
 refine wpQuiet_nil ?_;intro w1 hb1;replace hb1:=bX hb1;have B1:Below w.heap.size w w1:=Below.then_ bE hb1;have s1:=B1.size;have z1_0:w.heap.size<w1.heap.size:=by have:=hb1.size;(try simp at this);omega
 have y1_0:w.heap.size≤w1.heap.size:=Nat.le_of_lt z1_0;have c1_0:=czB hb1 (w.heap.size);have f1_0:=fzB hb1 (w.heap.size);go_wp2_with fail;exact bR (v:=.agg #[.int .i64 l,.int .i64 k,.int .i64 K]) (by simp only [results,Tryz.results26];go_simp) rfl ⟨rfl,bE⟩
def weighR (l:Int) (f:Int→Int→Bool) :List Nd→Int
 | []=>0
 |x :: r=>(if f (endsOf l x.1).1 (endsOf l x.1).2.1=true then x.2 else 0) +weighR l f r
def lowOf (l:Int) (r:List Nd) (y:Int) :Int:=weighR l (fun _ hi=>decide (hi≤y)) r
def highOf (l:Int) (r:List Nd) (y:Int) :Int:=weighR l (fun lo _=>decide (lo≤y)) r
theorem weighR_append (l:Int) (f:Int→Int→Bool) (a b:List Nd) :weighR l f (a ++ b) =weighR l f a+weighR l f b:=by
 induction a with
 |nil=>simp [weighR]
 |cons x a ih=>simp only [List.cons_append,weighR,ih];omega
theorem weighR_le {l:Int} {f:Int→Int→Bool} {r:List Nd} (h:Roll r) :0≤weighR l f r∧weighR l f r≤sumR r:=by
 induction r with
 |nil=>simp [weighR,sumR]
 |cons x r ih=>
  have:=ih h.tail;have hx:=h.2 x (by simp);simp only [weighR,sumR]
  split <;> omega
theorem totalFrom_bad {m:Int} {x:Nd} {l:List Nd} (hm:0≤m) (h:x.2<0∨most - m<x.2) :totalFrom m (x :: l) = (0,false):=by
 simp only [totalFrom];rw [if_neg];rintro⟨h1,h2⟩;unfold addOf at h1 h2;unfold most at*
 split at h1
 ·rename_i hc
  rw [if_pos hc] at h2;simp only at h2;omega
 ·cases h1
theorem totalFrom_good {m:Int} {x:Nd} {l:List Nd} (hm:0≤m) (h1:0≤x.2) (h2:x.2≤most - m) :totalFrom m (x :: l) =totalFrom (m+x.2) l:=by
 simp only [totalFrom];unfold most at h2;have e:addOf m x.2= (m+x.2,true):=by unfold addOf;rw [if_pos (by omega)]
 rw [e,if_pos ⟨rfl,by unfold most;simp only;omega⟩]
theorem ref6_Total (w:World) (A:Option Addr) (cap:Nat) (l:List Nd) (hS:Sl w w.heap.size encN A l) (hI:ints l) (hm:l.length≤maxLen) :
 Calls Tryz.prog 135 #[.slice A l.length cap] w fun e w'=>e=.returned (okV (totalOf l))∧Below w.heap.size w w':=by
 have HS:=LH hS;have HI:=LH hI;unfold maxLen at hm;clear hS hI
 go_enter Tryz.func135,Tryz.ntmps135
 go_wp2_with fail
 go_loop [4,5] (fun n i=>∃(k:Nat) (m:Int),k≤l.length∧i=.int .i64 k∧n=.int .i64 m∧0≤m∧m≤72057594037927935∧totalOf l=totalFrom m (l.drop k)) (fun _ i=>l.length - (intOf i).toNat)
 case atStart=>exact⟨0,0,by omega,rfl,rfl,by omega,by omega,rfl⟩
 case round=>
  obtain⟨k,m,hk,rfl,rfl,hm0,hm1,hT⟩:=hrel;have HT:=LH hT;clear hT;by_cases hlt:k<l.length
  ·obtain⟨b,off,rfl,hb,hc⟩:=HS.out.at_ hlt
   have d0:=hc 0 (.int .i64 l[k].1) rfl;have d1:=hc 1 (.int .i64 l[k].2) rfl;simp only [Nat.add_zero] at d0;have hx:=(HI.out _ (List.getElem_mem hlt)).2;have hN:=HT.out;rw [drop_cons hlt] at hN;obtain⟨x,hxe⟩ : ∃x,x=l[k]:=⟨_,rfl⟩;rw [←hxe] at d0 d1 hx hN;unfold i64 at hx;have hx1:=hx.1;have hx2:=hx.2;have HN:=LH hN;clear hc hN hxe hx;by_cases h1:x.2<0
   ·have HF:=LH (HN.out.trans (totalFrom_bad hm0 (.inl h1)))
    go_wp2_with fail
    go_ret2
    exact⟨by rw [HF.out];rfl,bE⟩
   ·by_cases h2:72057594037927935 - m<x.2
    ·have HF:=LH (HN.out.trans (totalFrom_bad hm0 (.inr h2)))
     go_wp2_with fail
     go_ret2
     exact⟨by rw [HF.out];rfl,bE⟩
    ·have HF:=LH (HN.out.trans (totalFrom_good hm0 (by omega) (by unfold most;omega)))
     go_wp2_with fail
     go_round
     case rel=>exact⟨k+1,m+x.2,by omega,by go_num,rfl,by omega,by omega,HF.out⟩
     case measure=>simp [intOf];omega
  ·obtain rfl:k=l.length:=by omega
   have HE:=LH (show totalOf l= (m,true) by rw [HT.out,List.drop_length];rfl);go_wp2_with fail
   go_ret2
   exact⟨by rw [HE.out];rfl,bE⟩
def lastR (l:List Nd) (k:Nat) :Int:=if k=0 then 0 else (l[k - 1]?.getD (0,0)).1
theorem rises_step {u:Int} {l:List Nd} {k:Nat} (hk:k<l.length) (hN:isNode u l[k].1=true) (h1:1≤l[k].2) (hl:lastR l k<l[k].1) (hR:risesFrom u 0 l=risesFrom u (lastR l k) (l.drop k)) :
 risesFrom u 0 l=risesFrom u (lastR l (k+1)) (l.drop (k+1)):=by
 rw [hR,drop_cons hk];simp only [risesFrom,hN,hl,h1,decide_true,Bool.true_and]
 congr 1
 simp [lastR,hk]
theorem rises_bad {u:Int} {l:List Nd} {k:Nat} (hk:k<l.length) (hR:risesFrom u 0 l=risesFrom u (lastR l k) (l.drop k)) (h:isNode u l[k].1=false∨l[k].2<1∨l[k].1≤lastR l k) :rightOf u l=false:=by
 unfold rightOf;rw [hR,drop_cons hk];simp only [risesFrom];rcases h with h|h|h
 ·rw [h];simp
 ·have:decide (1≤l[k].2) =false:=by simpa using h
  rw [this];simp
 ·have:decide (lastR l k<l[k].1) =false:=by simpa using h
  rw [this];simp
theorem ref6_Right (w:World) (u:Int) (A:Option Addr) (cap:Nat) (l:List Nd) (hS:Sl w w.heap.size encN A l) (hI:ints l) (hm:l.length≤maxLen) :
 Calls Tryz.prog 60 #[.int .i64 u,.slice A l.length cap] w fun e w'=>e=.returned (.bool (rightOf u l))∧Below w.heap.size w w':=by
 have HS:=LH hS;have HI:=LH hI;have HM:=LH hm;unfold maxLen at hm;clear hS hI
 go_enter Tryz.func60,Tryz.ntmps60
 go_wp2_with fail
 go_loopw [5] (fun i wr=>∃k:Nat,k≤l.length∧i=.int .i64 k∧risesFrom u 0 l=risesFrom u (lastR l k) (l.drop k)∧Below w.heap.size w wr) (fun i _=>l.length - (intOf i).toNat)
 case atStart=>exact⟨0,by omega,rfl,rfl,Below.refl _ _⟩
 case round=>
  obtain⟨k,hk,rfl,hR,hB⟩:=hrel;have HR:=LH hR;clear hR;have hs:=hB.size;by_cases hlt:k<l.length
  ·obtain⟨b,off,rfl,hb,hc⟩:=(HS.out.below hB).at_ hlt
   have d0:=hc 0 (.int .i64 l[k].1) rfl;have d1:=hc 1 (.int .i64 l[k].2) rfl;simp only [Nat.add_zero] at d0;have hx:=(HI.out _ (List.getElem_mem hlt)).1;have HBad:=LH (rises_bad hlt HR.out);have HGood:=LH (fun h1 h2 h3=>rises_step hlt h1 h2 h3 HR.out);have hzb:b<wr.heap.size:=by omega
   have i1: (k:Int) < (l.length:Int):=by omega
   have hprev: ∀j,k=j+1→∃y:Nd,lastR l k=y.1∧wr.cell? ⟨b,off+j*2,none⟩ =some (.int .i64 y.1):=by
    intro j hj;subst hj;have hlj:j<l.length:=by omega
    obtain⟨b',off',hA,_,hc'⟩:=(HS.out.below hB).at_ hlj
    cases hA
    refine⟨l[j],by simp [lastR,hlj],?_⟩;have:=hc' 0 (.int .i64 l[j].1) rfl
    simpa using this
   have HP:=LH hprev;obtain⟨x,hxe⟩ : ∃x,x=l[k]:=⟨_,rfl⟩;rw [←hxe] at d0 d1 hx HBad HGood;unfold i64 at hx;have hx2:=hx.2;clear hc hxe hx hprev
   cases h2:isNode u x.1
   ·have HF:=LH (HBad.out (.inl h2))
    go_wp2_with fail;refine rX (by kernel_rfl) (by kernel_rfl) ?_
    repeat (go_big_quiet_step ((go_at_call 134;exact quiet_ext (ref2_Right _ u x.1 hx2))))
    refine wpQuiet_nil ?_;intro w1 hb1;replace hb1:=bX hb1;have B1:Below w.heap.size w w1:=Below.then_ bE hb1;have s1:=B1.size;go_wp2_with fail;go_ret;exact⟨ret_bool HF.out.symm,bE⟩
   ·by_cases h3:x.2<1
    ·have HF:=LH (HBad.out (.inr (.inl h3)))
     go_wp2_with fail;refine rX (by kernel_rfl) (by kernel_rfl) ?_
     repeat (go_big_quiet_step ((go_at_call 134;exact quiet_ext (ref2_Right _ u x.1 hx2))))
     refine wpQuiet_nil ?_;intro w1 hb1;replace hb1:=bX hb1;have B1:Below w.heap.size w w1:=Below.then_ bE hb1;have s1:=B1.size;go_wp2_with fail;go_ret;exact⟨ret_bool HF.out.symm,bE⟩
    ·have h3':decide (x.2<1) =false:=by simpa using h3
     rcases k with _|j
     ·have h1':1≤x.1:=(isNode_nat h2).elim fun n ⟨m,h⟩=>by omega
      have HF:=LH (HGood.out h2 (by omega) (by simp only [lastR];simp;omega));simp only [Nat.zero_mul,Nat.add_zero,Int.natCast_zero] at d0 d1 i1⊢;go_wp2_with fail;refine rX (by kernel_rfl) (by kernel_rfl) ?_
      repeat (go_big_quiet_step ((go_at_call 134;exact quiet_ext (ref2_Right _ u x.1 hx2))))
      refine wpQuiet_nil ?_;intro w1 hb1;replace hb1:=bX hb1;have B1:Below w.heap.size w w1:=Below.then_ bE hb1;have s1:=B1.size;go_wp2_with fail;go_roundw
      case rel=>exact⟨1,by omega,by go_num,HF.out,bE⟩
      case measure=>simp [intOf];omega
     ·obtain⟨y,hy1,hy2⟩:=HP.out j rfl
      have j0: (0:Int)≤(j:Int):=by omega
      have j1: (j:Int) < (l.length:Int):=by omega
      by_cases h4:x.1≤y.1
      ·have HF:=LH (HBad.out (.inr (.inr (by omega))))
       have HY:=LH hy1;clear hy1;go_wp2_with fail;refine rX (by kernel_rfl) (by kernel_rfl) ?_
       repeat (go_big_quiet_step ((go_at_call 134;exact quiet_ext (ref2_Right _ u x.1 hx2))))
       refine wpQuiet_nil ?_;intro w1 hb1;replace hb1:=bX hb1;have B1:Below w.heap.size w w1:=Below.then_ bE hb1;have s1:=B1.size;go_wp2_with fail;go_ret;exact⟨ret_bool HF.out.symm,bE⟩
      ·have HF:=LH (HGood.out h2 (by omega) (by omega))
       have h4':decide (x.1≤y.1) =false:=by simpa using h4
       have HY:=LH hy1;clear hy1;go_wp2_with fail;refine rX (by kernel_rfl) (by kernel_rfl) ?_
       repeat (go_big_quiet_step ((go_at_call 134;exact quiet_ext (ref2_Right _ u x.1 hx2))))
       refine wpQuiet_nil ?_;intro w1 hb1;replace hb1:=bX hb1;have B1:Below w.heap.size w w1:=Below.then_ bE hb1;have s1:=B1.size;go_wp2_with fail;go_roundw
       case rel=>exact⟨j+1+1,by omega,by go_num,HF.out,bE⟩
       case measure=>simp [intOf];omega
  ·obtain rfl:k=l.length:=by omega
   have HE:=LH (show rightOf u l= ((totalOf l).2 && isNode u 1) by unfold rightOf;rw [HR.out,List.drop_length];simp [risesFrom])
   have HU:=LH (show isNode u 1=decide (1≤u∧u≤48) by
    simp only [isNode];rw [Bool.eq_iff_iff];simp only [decide_eq_true_eq];have:=pow_pos' u.toNat;omega)
   have HC:=LH (ref6_Total · A cap l · HI.out HM.out);generalize totalOf l=r at HE HC;obtain⟨r1,r2⟩:=r;go_wp2_with fail;refine(HC.out _ (HS.out.keep hs fun p hp=>hB.cell hp)).mono ?_;rintro e w1 ⟨rfl,hb1⟩;have B1:Below w.heap.size w w1:=Below.then_ bE hb1;have s1:=B1.size;unfold okV
   cases r2
   ·go_wp2_with fail
    go_ret;exact⟨ret_bool HE.out.symm,bE⟩
   ·go_wp2_with fail
    refine(ref2_Is _ u).mono ?_;rintro e w2 ⟨rfl,hb2⟩;have B2:Below w.heap.size w w2:=Below.then_ bE hb2;have s2:=B2.size;go_wp2_with fail;go_ret;exact⟨ret_bool (by rw [HE.out,HU.out];simp [Bool.decide_and]),bE⟩
theorem ref7_Total (w:World) (u:Int) (A:Option Addr) (cap:Nat) (l:List Nd) (hS:Sl w w.heap.size encN A l) (hI:ints l) (hm:l.length≤maxLen) :
 Calls Tryz.prog 186 #[.agg #[.int .i64 u,.slice A l.length cap]] w fun e w'=>e=.returned (.int .i64 (totalOf l).1)∧Below w.heap.size w w':=by
 have HC:=LH (ref6_Total · A cap l · hI hm);have HS:=LH hS;clear hS hI hm
 go_enter Tryz.func186,Tryz.ntmps186
 go_wp2_with fail;refine(HC.out _ (HS.out.keep (by simp) fun p hp=>((Below.refl w.heap.size w).alloc (Nat.le_refl _) _).cell hp)).mono ?_;rintro e w1 ⟨rfl,hb1⟩;have B1:Below w.heap.size w w1:=Below.then_ bE hb1;have s1:=B1.size;have z1_0:w.heap.size<w1.heap.size:=by have:=hb1.size;(try simp at this);omega
 have y1_0:w.heap.size≤w1.heap.size:=Nat.le_of_lt z1_0;have c1_0:=czB hb1 (w.heap.size);have f1_0:=fzB hb1 (w.heap.size);unfold okV;go_wp2_with fail;go_ret;exact⟨rfl,bE⟩
theorem ref9_Is (w:World) (K l:Int) :Calls Tryz.prog 133 #[.int .i64 K,.int .i64 l] w fun e w'=>e=.returned (.bool (isPool K l))∧Below w.heap.size w w':=by
 by_cases h1:K=1
 ·subst h1
  by_cases h2:1≤l
  ·by_cases h3:l≤16
   ·go_enter Tryz.func133,Tryz.ntmps133
    go_wp2_with fail;go_ret;exact⟨ret_bool (by simp [isPool,h2,h3]),bE⟩
   ·have h3':16<l:=by omega
    go_enter Tryz.func133,Tryz.ntmps133
    go_wp2_with fail;go_ret;exact⟨ret_bool (by simp [isPool];omega),bE⟩
  ·go_enter Tryz.func133,Tryz.ntmps133
   go_wp2_with fail;go_ret;exact⟨ret_bool (by simp [isPool];omega),bE⟩
 ·have e1: (K == 1) =false:=by simpa using h1
  by_cases h2:K=2
  ·subst h2
   by_cases h3:1≤l
   ·go_enter Tryz.func133,Tryz.ntmps133
    go_wp2_with fail;go_ret;exact⟨ret_bool (by simp [isPool,h3]),bE⟩
   ·go_enter Tryz.func133,Tryz.ntmps133
    go_wp2_with fail;go_ret;exact⟨ret_bool (by simp [isPool];omega),bE⟩
  ·have e2: (K == 2) =false:=by simpa using h2
   go_enter Tryz.func133,Tryz.ntmps133
   go_wp2_with fail;go_ret;exact⟨ret_bool (by simp [isPool,h1,h2]),bE⟩
theorem ref11_Cap (w:World) (n k:Int) (hn0:0≤n) (hn:n≤9223372036854775807) (hk:1≤k) (hk2:k≤9223372036854775807) :Calls Tryz.prog 185 #[.int .i64 n,.int .i64 k] w fun e w'=>e=.returned (.int .i64 (n / k))∧Below w.heap.size w w':=by
 have q1:0≤n / k:=Int.ediv_nonneg (by omega) (by omega);have q2:n / k≤n:=Int.ediv_le_self _ (by omega)
 go_enter Tryz.func185,Tryz.ntmps185
 go_wp2_with fail;go_ret;exact⟨rfl,bE⟩
theorem ref12_Is (w:World) (k:Int) :Calls Tryz.prog 132 #[.int .i64 k] w fun e w'=>e=.returned (.bool (decide (1≤k∧k≤1048576)))∧Below w.heap.size w w':=by
 by_cases h1:1≤k
 ·go_enter Tryz.func132,Tryz.ntmps132
  go_wp2_with fail;go_ret;exact⟨ret_bool (by simp [h1]),bE⟩
 ·go_enter Tryz.func132,Tryz.ntmps132
  go_wp2_with fail;go_ret;exact⟨ret_bool (by simp;omega),bE⟩
theorem ref12_Cap (w:World) (u k:Int) (A:Option Addr) (cap:Nat) (l:List Nd) (hS:Sl w w.heap.size encN A l) (hI:ints l) (hm:l.length≤maxLen) (h0:0≤(totalOf l).1) (h1: (totalOf l).1≤72057594037927935) (hk:1≤k) (hk2:k≤1048576) :
 Calls Tryz.prog 138 #[.agg #[.int .i64 u,.slice A l.length cap],.int .i64 k] w fun e w'=>e=.returned (.int .i64 ((totalOf l).1 / k))∧Below w.heap.size w w':=by
 have HC:=LH (ref7_Total · u A cap l · hI hm);have HS:=LH hS;clear hS hI hm;generalize (totalOf l).1=t at HC h0 h1⊢
 go_enter Tryz.func138,Tryz.ntmps138
 go_wp2_with fail;refine(HC.out _ (HS.out.keep (by simp) fun p hp=>((Below.refl w.heap.size w).alloc (Nat.le_refl _) _).cell hp)).mono ?_;rintro e w1 ⟨rfl,hb1⟩;have B1:Below w.heap.size w w1:=Below.then_ bE hb1;have s1:=B1.size;have z1_0:w.heap.size<w1.heap.size:=by have:=hb1.size;(try simp at this);omega
 have y1_0:w.heap.size≤w1.heap.size:=Nat.le_of_lt z1_0;have c1_0:=czB hb1 (w.heap.size);have f1_0:=fzB hb1 (w.heap.size);go_wp2_with fail;refine(ref11_Cap _ t k h0 (by omega) hk (by omega)).mono ?_;rintro e w2 ⟨rfl,hb2⟩;have B2:Below w.heap.size w w2:=Below.then_ bE hb2;have s2:=B2.size;go_wp2_with fail;go_ret;exact⟨rfl,bE⟩
theorem light_step {u m:Int} {l:List Nd} {k:Nat} (hk:k<l.length) (h: (l.take k).any (heavy u m) =false) (hx:heavy u m l[k] =false) : (l.take (k+1)).any (heavy u m) =false:=by
 rw [List.take_succ_eq_append_getElem hk,List.any_append,h];simp [hx]
theorem light_bad {u m:Int} {l:List Nd} {k:Nat} (hk:k<l.length) (hx:heavy u m l[k] =true) :l.any (heavy u m) =true:=List.any_eq_true.2 ⟨_,List.getElem_mem hk,hx⟩
theorem ref12_Light (w:World) (u k:Int) (A:Option Addr) (cap:Nat) (l:List Nd) (hS:Sl w w.heap.size encN A l) (hI:ints l) (hm:l.length≤maxLen) (ht: (totalOf l).1=sumR l) (h0:0≤sumR l) (h1:sumR l≤72057594037927935) (hk:1≤k) (hk2:k≤1048576) :
 Calls Tryz.prog 62 #[.agg #[.int .i64 u,.slice A l.length cap],.int .i64 k] w fun e w'=>e=.returned (.bool (lightOf u l k))∧Below w.heap.size w w':=by
 have HC:Hid (∀W,Sl W W.heap.size encN A l→Calls Tryz.prog 138 #[.agg #[.int .i64 u,.slice A l.length cap],.int .i64 k] W fun e w'=>e=.returned (.int .i64 (sumR l / k))∧Below W.heap.size W w'):=LH fun W hW=>by
  have:=ref12_Cap W u k A cap l hW hI hm (by omega) (by omega) hk hk2
  rwa [ht] at this
 have HS:=LH (hS.keep (B':=w.heap.size) (Nat.le_refl _) fun p hp=>((Below.refl w.heap.size w).alloc (Nat.le_refl _) (.cells #[.int .i64 u,.slice A l.length cap] 29)).cell hp);have HI:=LH hI;have HM:Hid (lightOf u l k= !l.any (heavy u (sumR l / k))):=LH rfl;unfold maxLen at hm;clear hS hI ht;generalize sumR l / k=m at HC HM
 go_enter Tryz.func62,Tryz.ntmps62
 go_wp2_with fail
 go_loopw [5] (fun i wr=>∃q:Nat,q≤l.length∧i=.int .i64 q∧(l.take q).any (heavy u m) =false∧Below w.heap.size w wr∧Below (w.heap.size+1) (w.alloc (.cells #[.int .i64 u,.slice A l.length cap] 29)) wr) (fun i _=>l.length - (intOf i).toNat)
 case atStart=>exact⟨0,by omega,rfl,rfl,bE,Below.refl _ _⟩
 case round=>
  obtain⟨q,hq,rfl,hR,hBw,hB⟩:=hrel;have HR:=LH hR;clear hR;have hs:=hB.size;simp only [World.size_alloc] at hs;have cb:=bC ((hB.block w.heap.size (by omega)).trans (heap_alloc_new w _));have zb:w.heap.size<wr.heap.size:=by omega
  by_cases hlt:q<l.length
  ·obtain⟨b,off,rfl,hb,hc⟩:=(HS.out.below (hB.mono (by omega))).at_ hlt
   have HSr:=LH ((HS.out.below (hB.mono (by omega))).keep (B':=wr.heap.size) (by omega) fun p hp=>rfl);have d0:=hc 0 (.int .i64 l[q].1) rfl;have d1:=hc 1 (.int .i64 l[q].2) rfl;simp only [Nat.add_zero] at d0;have hx:=(HI.out _ (List.getElem_mem hlt)).1;have HStep:=LH (light_step hlt HR.out);have HBad:=LH (light_bad (u:=u) (m:=m) hlt);have hzb:b<wr.heap.size:=by omega
   have i1: (q:Int) < (l.length:Int):=by omega
   obtain⟨x,hxe⟩ : ∃x,x=l[q]:=⟨_,rfl⟩;rw [←hxe] at d0 d1 hx HStep HBad;have HK:=LH (ref2_Kids · u x.1 hx.2);have HH:Hid (heavy u m x= ((kidsOf u x.1).2.2 && decide (m<x.2))):=LH rfl;generalize kidsOf u x.1=t at HK HH;obtain⟨t1,t2,t3⟩:=t;unfold endsV at HK;clear hc hxe hx
   cases t3
   ·have HF:=LH (HStep.out (by rw [HH.out];rfl))
    go_wp2_with fail;refine rX (by kernel_rfl) (by kernel_rfl) ?_
    repeat (go_big_quiet_step ((go_at_call 137;exact quiet_ext (HK.out _))))
    refine wpQuiet_nil ?_;intro w1 hb1;replace hb1:=bX hb1;have B1:Below w.heap.size w w1:=Below.then_ bE hb1;have s1:=B1.size;have z1_0:w.heap.size<w1.heap.size:=by have:=hb1.size;(try simp at this);omega
    have y1_0:w.heap.size≤w1.heap.size:=Nat.le_of_lt z1_0;have c1_0:=czB hb1 (w.heap.size);have f1_0:=fzB hb1 (w.heap.size);have z1_1:b<w1.heap.size:=by have:=hb1.size;(try simp at this);omega
    have y1_1:b≤w1.heap.size:=Nat.le_of_lt z1_1;have c1_1:=czB hb1 (b);have f1_1:=fzB hb1 (b);go_wp2_with fail;refine rX (by kernel_rfl) (by kernel_rfl) ?_
    repeat (go_big_quiet_step (fail))
    refine wpQuiet_nil ?_;intro w2 hb2;replace hb2:=bX hb2;have B2:Below w.heap.size w w2:=Below.then_ bE hb2;have s2:=B2.size;have z2_0:w.heap.size<w2.heap.size:=by have:=hb2.size;(try simp at this);omega
    have y2_0:w.heap.size≤w2.heap.size:=Nat.le_of_lt z2_0;have c2_0:=czB hb2 (w.heap.size);have f2_0:=fzB hb2 (w.heap.size);have z2_1:b<w2.heap.size:=by have:=hb2.size;(try simp at this);omega
    have y2_1:b≤w2.heap.size:=Nat.le_of_lt z2_1;have c2_1:=czB hb2 (b);have f2_1:=fzB hb2 (b);have hB2:Below (w.heap.size+1) (w.alloc (.cells #[.int .i64 u,.slice (some ⟨b,off,none⟩) l.length cap] 29)) w2:=hB.trans ((hb1.mono (by omega)).trans (hb2.mono (by omega)));go_wp2_with fail;go_roundw
    case rel=>exact⟨q+1,by omega,by go_num,HF.out,B2,hB2⟩
    case measure=>simp [intOf];omega
   ·by_cases hmx:m<x.2
    ·have HF:=LH (HBad.out (by rw [HH.out];simpa using hmx))
     go_wp2_with fail;refine rX (by kernel_rfl) (by kernel_rfl) ?_
     repeat (go_big_quiet_step ((go_at_call 137;exact quiet_ext (HK.out _))))
     refine wpQuiet_nil ?_;intro w1 hb1;replace hb1:=bX hb1;have B1:Below w.heap.size w w1:=Below.then_ bE hb1;have s1:=B1.size;have z1_0:w.heap.size<w1.heap.size:=by have:=hb1.size;(try simp at this);omega
     have y1_0:w.heap.size≤w1.heap.size:=Nat.le_of_lt z1_0;have c1_0:=czB hb1 (w.heap.size);have f1_0:=fzB hb1 (w.heap.size);have z1_1:b<w1.heap.size:=by have:=hb1.size;(try simp at this);omega
     have y1_1:b≤w1.heap.size:=Nat.le_of_lt z1_1;have c1_1:=czB hb1 (b);have f1_1:=fzB hb1 (b);have HS1:=LH (HSr.out.keep hb1.size fun p hp=>hb1.cell hp);go_wp2_with fail;refine rX (by kernel_rfl) (by kernel_rfl) ?_
     repeat (go_big_quiet_step ((go_at_call 138;exact quiet_ext (HC.out _ (HS1.out.keep (ext_below _ _).size fun p hp=>(ext_below _ _).cell hp)))))
     refine wpQuiet_nil ?_;intro w2 hb2;replace hb2:=bX hb2;have B2:Below w.heap.size w w2:=Below.then_ bE hb2;have s2:=B2.size;have z2_0:w.heap.size<w2.heap.size:=by have:=hb2.size;(try simp at this);omega
     have y2_0:w.heap.size≤w2.heap.size:=Nat.le_of_lt z2_0;have c2_0:=czB hb2 (w.heap.size);have f2_0:=fzB hb2 (w.heap.size);have z2_1:b<w2.heap.size:=by have:=hb2.size;(try simp at this);omega
     have y2_1:b≤w2.heap.size:=Nat.le_of_lt z2_1;have c2_1:=czB hb2 (b);have f2_1:=fzB hb2 (b);go_wp2_with fail;go_ret;exact⟨ret_bool (by rw [HM.out,HF.out];rfl),bE⟩
    ·have hmx':decide (m<x.2) =false:=by simpa using hmx
     have HF:=LH (HStep.out (by rw [HH.out,hmx'];rfl));go_wp2_with fail;refine rX (by kernel_rfl) (by kernel_rfl) ?_
     repeat (go_big_quiet_step ((go_at_call 137;exact quiet_ext (HK.out _))))
     refine wpQuiet_nil ?_;intro w1 hb1;replace hb1:=bX hb1;have B1:Below w.heap.size w w1:=Below.then_ bE hb1;have s1:=B1.size;have z1_0:w.heap.size<w1.heap.size:=by have:=hb1.size;(try simp at this);omega
     have y1_0:w.heap.size≤w1.heap.size:=Nat.le_of_lt z1_0;have c1_0:=czB hb1 (w.heap.size);have f1_0:=fzB hb1 (w.heap.size);have z1_1:b<w1.heap.size:=by have:=hb1.size;(try simp at this);omega
     have y1_1:b≤w1.heap.size:=Nat.le_of_lt z1_1;have c1_1:=czB hb1 (b);have f1_1:=fzB hb1 (b);have HS1:=LH (HSr.out.keep hb1.size fun p hp=>hb1.cell hp);go_wp2_with fail;refine rX (by kernel_rfl) (by kernel_rfl) ?_
     repeat (go_big_quiet_step ((go_at_call 138;exact quiet_ext (HC.out _ (HS1.out.keep (ext_below _ _).size fun p hp=>(ext_below _ _).cell hp)))))
     refine wpQuiet_nil ?_;intro w2 hb2;replace hb2:=bX hb2;have B2:Below w.heap.size w w2:=Below.then_ bE hb2;have s2:=B2.size;have z2_0:w.heap.size<w2.heap.size:=by have:=hb2.size;(try simp at this);omega
     have y2_0:w.heap.size≤w2.heap.size:=Nat.le_of_lt z2_0;have c2_0:=czB hb2 (w.heap.size);have f2_0:=fzB hb2 (w.heap.size);have z2_1:b<w2.heap.size:=by have:=hb2.size;(try simp at this);omega
     have y2_1:b≤w2.heap.size:=Nat.le_of_lt z2_1;have c2_1:=czB hb2 (b);have f2_1:=fzB hb2 (b);have hB2:Below (w.heap.size+1) (w.alloc (.cells #[.int .i64 u,.slice (some ⟨b,off,none⟩) l.length cap] 29)) w2:=hB.trans ((hb1.mono (by omega)).trans (hb2.mono (by omega)));go_wp2_with fail;go_roundw
     case rel=>exact⟨q+1,by omega,by go_num,HF.out,B2,hB2⟩
     case measure=>simp [intOf];omega
  ·obtain rfl:q=l.length:=by omega
   rw [List.take_length] at HR;have hkk:decide (1≤k∧k≤1048576) =true:=by simp [hk,hk2]
   have HK2:=LH hkk;clear hkk;go_wp2_with fail;refine(ref12_Is _ k).mono ?_;rintro e w1 ⟨rfl,hb1⟩;have B1:Below w.heap.size w w1:=Below.then_ bE hb1;have s1:=B1.size;rw [HK2.out];go_wp2_with fail;go_ret;exact⟨ret_bool (by rw [HM.out,HR.out];rfl),bE⟩
theorem ref13_Is (w:World) (l k K:Int) :Calls Tryz.prog 59 #[.agg #[.int .i64 l,.int .i64 k,.int .i64 K]] w fun e w'=>e=.returned (.bool (isDig l k K))∧Below w.heap.size w w':=by
 have HE:Hid (isDig l k K= (isPool K l && decide (1≤k∧k≤1048576))):=LH rfl;have HC:=LH (ref12_Is · k)
 cases hk:decide (1≤k∧k≤1048576)
 ·rw [hk] at HE HC
  clear hk
  go_enter Tryz.func59,Tryz.ntmps59
  go_wp2_with fail;refine(HC.out _).mono ?_;rintro e w1 ⟨rfl,hb1⟩;have B1:Below w.heap.size w w1:=Below.then_ bE hb1;have s1:=B1.size;have z1_0:w.heap.size<w1.heap.size:=by have:=hb1.size;(try simp at this);omega
  have y1_0:w.heap.size≤w1.heap.size:=Nat.le_of_lt z1_0;have c1_0:=czB hb1 (w.heap.size);have f1_0:=fzB hb1 (w.heap.size);go_wp2_with fail;go_ret;exact⟨ret_bool (by rw [HE.out];simp),bE⟩
 ·rw [hk] at HE HC
  clear hk
  go_enter Tryz.func59,Tryz.ntmps59
  go_wp2_with fail;refine(HC.out _).mono ?_;rintro e w1 ⟨rfl,hb1⟩;have B1:Below w.heap.size w w1:=Below.then_ bE hb1;have s1:=B1.size;have z1_0:w.heap.size<w1.heap.size:=by have:=hb1.size;(try simp at this);omega
  have y1_0:w.heap.size≤w1.heap.size:=Nat.le_of_lt z1_0;have c1_0:=czB hb1 (w.heap.size);have f1_0:=fzB hb1 (w.heap.size);go_wp2_with fail;refine(ref9_Is _ K l).mono ?_;rintro e w2 ⟨rfl,hb2⟩;have B2:Below w.heap.size w w2:=Below.then_ bE hb2;have s2:=B2.size;have z2_0:w.heap.size<w2.heap.size:=by have:=hb2.size;(try simp at this);omega
  have y2_0:w.heap.size≤w2.heap.size:=Nat.le_of_lt z2_0;have c2_0:=czB hb2 (w.heap.size);have f2_0:=fzB hb2 (w.heap.size);go_wp2_with fail;go_ret;exact⟨ret_bool (by rw [HE.out];simp),bE⟩
theorem ref13_New (w:World) (l k K:Int) :Calls Tryz.prog 61 #[.agg #[.int .i64 l,.int .i64 k,.int .i64 K]] w fun e w'=>e=.returned (.agg #[.int .i64 k,.int .i64 l,.slice none 0 0])∧Below w.heap.size w w':=by
 go_enter Tryz.func61,Tryz.ntmps61
 go_wp2_with fail;exact bR (v:=.agg #[.int .i64 k,.int .i64 l,.slice none 0 0]) (by simp only [results,Tryz.results61];go_simp) rfl ⟨rfl,bE⟩
def refDig (k l:Int) (A:Option Addr) (n cap:Nat) :Value:=.agg #[.int .i64 k,.int .i64 l,.slice A n cap]
def refLoadV (l k K:Int) (A:Option Addr) (r:List Nd) (cap:Nat) :Value:=if loadErr l k K r=0 then .tuple #[refDig k l A r.length cap,.int .i64 0] else .tuple #[refDig 0 0 none 0 0,.int .i64 (loadErr l k K r)]
theorem ref13_Load_l (w:World) (l:Nat) (k K:Int) (A:Option Addr) (cap:Nat) (r:List Nd) (hd:isDig l k K=true) (hr:rightOf l r=true) (h8: ¬8*k<r.length) (hS:Sl w w.heap.size encN A r) (hI:ints r) (hn:r.length<67108864) :Calls Tryz.prog 20 #[.agg #[.int .i64 l,.int .i64 k,.int .i64 K],.slice A r.length cap] w fun e w'=>e=.returned (.tuple #[if lightOf l r k=true then refDig k l A r.length cap else refDig 0 0 none 0 0,.int .i64 (if lightOf l r k=true then 0 else 13)])∧Below w.heap.size w w':=by
 have hf:=right_fits hr;have hs0:=sumR_nonneg hf.1.roll;have hs1:=hf.1.sum;have HD:=LH hd;have HR:=LH (ref6_Right · l A cap r · hI (by unfold maxLen;omega));have HF:=LH hr;have HS:=LH hS;simp only [isDig,Bool.and_eq_true,decide_eq_true_eq] at hd;obtain⟨_,hk1,hk2⟩:=hd;have HL:=LH (ref12_Light · l k A cap r · hI (by unfold maxLen;omega) hf.2 hs0 hs1 hk1 hk2);clear hr hS hf hs0 hs1;unfold refDig
 cases hl:lightOf l r k
 ·rw [hl] at HL
  rw [if_neg (by simp),if_neg (by simp)];clear hl
  go_enter Tryz.func20,Tryz.ntmps20
  go_wp2_with fail;refine(ref13_Is _ l k K).mono ?_;rintro e w1 ⟨rfl,hb1⟩;have B1:Below w.heap.size w w1:=Below.then_ bE hb1;have s1:=B1.size;have z1_0:w.heap.size<w1.heap.size:=by have:=hb1.size;(try simp at this);omega
  have y1_0:w.heap.size≤w1.heap.size:=Nat.le_of_lt z1_0;have c1_0:=czB hb1 (w.heap.size);have f1_0:=fzB hb1 (w.heap.size);have z1_1:w.heap.size+1<w1.heap.size:=by have:=hb1.size;(try simp at this);omega
  have y1_1:w.heap.size+1≤w1.heap.size:=Nat.le_of_lt z1_1;have c1_1:=czB hb1 (w.heap.size+1);have f1_1:=fzB hb1 (w.heap.size+1);rw [HD.out];go_wp2_with fail;refine(HR.out _ (HS.out.keep s1 fun p hp=>B1.cell hp)).mono ?_;rintro e w2 ⟨rfl,hb2⟩;have B2:Below w.heap.size w w2:=Below.then_ bE hb2;have s2:=B2.size;have z2_0:w.heap.size<w2.heap.size:=by have:=hb2.size;(try simp at this);omega
  have y2_0:w.heap.size≤w2.heap.size:=Nat.le_of_lt z2_0;have c2_0:=czB hb2 (w.heap.size);have f2_0:=fzB hb2 (w.heap.size);have z2_1:w.heap.size+1<w2.heap.size:=by have:=hb2.size;(try simp at this);omega
  have y2_1:w.heap.size+1≤w2.heap.size:=Nat.le_of_lt z2_1;have c2_1:=czB hb2 (w.heap.size+1);have f2_1:=fzB hb2 (w.heap.size+1);rw [HF.out];go_wp2_with fail;refine(ref13_New _ l k K).mono ?_;rintro e w3 ⟨rfl,hb3⟩;have B3:Below w.heap.size w w3:=Below.then_ bE hb3;have s3:=B3.size;have z3_0:w.heap.size<w3.heap.size:=by have:=hb3.size;(try simp at this);omega
  have y3_0:w.heap.size≤w3.heap.size:=Nat.le_of_lt z3_0;have c3_0:=czB hb3 (w.heap.size);have f3_0:=fzB hb3 (w.heap.size);have z3_1:w.heap.size+1<w3.heap.size:=by have:=hb3.size;(try simp at this);omega
  have y3_1:w.heap.size+1≤w3.heap.size:=Nat.le_of_lt z3_1;have c3_1:=czB hb3 (w.heap.size+1);have f3_1:=fzB hb3 (w.heap.size+1);go_wp2_with fail;refine(HL.out _ (HS.out.keep (by simp;omega) fun p hp=>Go.RowKit.Below.cell (B:=w.heap.size) (w:=w) bE hp)).mono ?_;rintro e w4 ⟨rfl,hb4⟩;have B4:Below w.heap.size w w4:=Below.then_ bE hb4;have s4:=B4.size;have z4_0:w.heap.size<w4.heap.size:=by have:=hb4.size;(try simp at this);omega
  have y4_0:w.heap.size≤w4.heap.size:=Nat.le_of_lt z4_0;have c4_0:=czB hb4 (w.heap.size);have f4_0:=fzB hb4 (w.heap.size);have z4_1:w.heap.size+1<w4.heap.size:=by have:=hb4.size;(try simp at this);omega
  have y4_1:w.heap.size+1≤w4.heap.size:=Nat.le_of_lt z4_1;have c4_1:=czB hb4 (w.heap.size+1);have f4_1:=fzB hb4 (w.heap.size+1);go_wp2_with fail;exact bR (v:=.tuple #[.agg #[.int .i64 0,.int .i64 0,.slice none 0 0],.int .i64 13]) (by simp only [results,Tryz.results20];go_simp) rfl ⟨rfl,bE⟩
 ·rw [hl] at HL
  rw [if_pos rfl,if_pos rfl];clear hl
  go_enter Tryz.func20,Tryz.ntmps20
  go_wp2_with fail;refine(ref13_Is _ l k K).mono ?_;rintro e w1 ⟨rfl,hb1⟩;have B1:Below w.heap.size w w1:=Below.then_ bE hb1;have s1:=B1.size;have z1_0:w.heap.size<w1.heap.size:=by have:=hb1.size;(try simp at this);omega
  have y1_0:w.heap.size≤w1.heap.size:=Nat.le_of_lt z1_0;have c1_0:=czB hb1 (w.heap.size);have f1_0:=fzB hb1 (w.heap.size);have z1_1:w.heap.size+1<w1.heap.size:=by have:=hb1.size;(try simp at this);omega
  have y1_1:w.heap.size+1≤w1.heap.size:=Nat.le_of_lt z1_1;have c1_1:=czB hb1 (w.heap.size+1);have f1_1:=fzB hb1 (w.heap.size+1);rw [HD.out];go_wp2_with fail;refine(HR.out _ (HS.out.keep s1 fun p hp=>B1.cell hp)).mono ?_;rintro e w2 ⟨rfl,hb2⟩;have B2:Below w.heap.size w w2:=Below.then_ bE hb2;have s2:=B2.size;have z2_0:w.heap.size<w2.heap.size:=by have:=hb2.size;(try simp at this);omega
  have y2_0:w.heap.size≤w2.heap.size:=Nat.le_of_lt z2_0;have c2_0:=czB hb2 (w.heap.size);have f2_0:=fzB hb2 (w.heap.size);have z2_1:w.heap.size+1<w2.heap.size:=by have:=hb2.size;(try simp at this);omega
  have y2_1:w.heap.size+1≤w2.heap.size:=Nat.le_of_lt z2_1;have c2_1:=czB hb2 (w.heap.size+1);have f2_1:=fzB hb2 (w.heap.size+1);rw [HF.out];go_wp2_with fail;refine(ref13_New _ l k K).mono ?_;rintro e w3 ⟨rfl,hb3⟩;have B3:Below w.heap.size w w3:=Below.then_ bE hb3;have s3:=B3.size;have z3_0:w.heap.size<w3.heap.size:=by have:=hb3.size;(try simp at this);omega
  have y3_0:w.heap.size≤w3.heap.size:=Nat.le_of_lt z3_0;have c3_0:=czB hb3 (w.heap.size);have f3_0:=fzB hb3 (w.heap.size);have z3_1:w.heap.size+1<w3.heap.size:=by have:=hb3.size;(try simp at this);omega
  have y3_1:w.heap.size+1≤w3.heap.size:=Nat.le_of_lt z3_1;have c3_1:=czB hb3 (w.heap.size+1);have f3_1:=fzB hb3 (w.heap.size+1);go_wp2_with fail;refine(HL.out _ (HS.out.keep (by simp;omega) fun p hp=>Go.RowKit.Below.cell (B:=w.heap.size) (w:=w) bE hp)).mono ?_;rintro e w4 ⟨rfl,hb4⟩;have B4:Below w.heap.size w w4:=Below.then_ bE hb4;have s4:=B4.size;have z4_0:w.heap.size<w4.heap.size:=by have:=hb4.size;(try simp at this);omega
  have y4_0:w.heap.size≤w4.heap.size:=Nat.le_of_lt z4_0;have c4_0:=czB hb4 (w.heap.size);have f4_0:=fzB hb4 (w.heap.size);have z4_1:w.heap.size+1<w4.heap.size:=by have:=hb4.size;(try simp at this);omega
  have y4_1:w.heap.size+1≤w4.heap.size:=Nat.le_of_lt z4_1;have c4_1:=czB hb4 (w.heap.size+1);have f4_1:=fzB hb4 (w.heap.size+1);have z4_2:w3.heap.size<w4.heap.size:=by have:=hb4.size;(try simp at this);omega
  have y4_2:w3.heap.size≤w4.heap.size:=Nat.le_of_lt z4_2;have c4_2:=czB hb4 (w3.heap.size);have f4_2:=fzB hb4 (w3.heap.size);go_wp2_with fail;exact bR (v:=.tuple #[.agg #[.int .i64 k,.int .i64 l,.slice A r.length cap],.int .i64 0]) (by simp only [results,Tryz.results20];go_simp) rfl ⟨rfl,bE⟩
end Go.Proofs.YtapgmnnchbepiaaGreat
