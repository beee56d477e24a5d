/-
  Texts of this proof, one behind the other: Wave, TurnedB, WaveSpoil, Vary, Rises, VaryLaw, Seal, Ref22, Seal2, Crew, Letter, Load16, RankPlain, TilesLaw, FitsP, Flow, TellsA, Digits, Times, Quot, DivLaw.
-/
import Derived.OwnWalk
import Derived.Deep.RegionHeld3
import Derived.Deep.RegionLaw
import Derived.Deep.DrawnRows
import Derived.Lib.ConvBytes
import Derived.Laws.BytesArg
import Derived.Laws.BitsLemmas
import Derived.Laws.IdiomStrings
import Derived.Laws.Concat
import Derived.RegionTactic
import Derived.ChangeAlike
import Derived.Test.YtmdidmclfbfmiaaGreatDoorS1
import Derived.Test.YtmdidmclfbfmiaaGreatDoorS2
set_option linter.unusedVariables false
set_option linter.unusedSimpArgs false
set_option maxRecDepth 100000
set_option maxHeartbeats 16000000
namespace Go.Proofs.YtmdidmclfbfmiaaGreatDoor
open Go.ChangeShapes Go.WideShapes Go.ChangeAt Go.RowKit
section
attribute [local go_sem ↓] Go.wp_at_zero Go.wp_at_succ
abbrev It:=Int×ByteArray
structure WS where
 sent:Nat
 taken:Nat
 lost:Nat
 copied:Nat
 spoilt:Nat
 items:List It
def encI:Enc It 2:=⟨fun x=> [.int .i64 x.1,.string x.2],fun _=>rfl,by intro x u hu;simp at hu;rcases hu with rfl|rfl <;> rfl⟩
theorem tyI:SliceTy Tryz.prog 171 176 2 24 (.agg #[.int .i64 0,.string ⟨#[]⟩]):=⟨Tryz.underlying171,by kernel_rfl,rfl,by decide⟩
def waveCells (s:WS) (v:Value) :Array Value:= #[.int .i64 s.sent,.int .i64 s.taken,.int .i64 s.lost,.int .i64 s.copied,.int .i64 s.spoilt,v]
def WaveAt (w:World) (base g:Nat) (s:WS) :Prop:=
 ∃v,w.heap[g]? =some (.cells (waveCells s v) 173 (0,0))∧base≤g∧Own w base 176 encI v s.items
def waveF (w:World) (g b:Nat) :Prop:=b=g∨∃v,w.cell? ⟨g,5,none⟩ =some v∧v.ownBlock=some b
def WTurn (g:Nat) (w w':World) :Prop:=g<w.heap.size∧Turn (waveF w g) w w'∧Grow w (waveF w g) (waveF w' g)
theorem WTurn.trans {g:Nat} {a b c:World} (h:WTurn g a b) (k:WTurn g b c) :WTurn g a c:=⟨h.1,h.2.1.trans k.2.1 h.2.2,h.2.2.trans k.2.2 h.2.1.size⟩
theorem WTurn.of_below {g:Nat} {w w':World} (hg:g<w.heap.size) (hb:Below w.heap.size w w') :WTurn g w w':=
 ⟨hg,.of_below hb,fun b hf=>by
  rcases hf with rfl| ⟨v,h1,h2⟩
  ·exact .inl (.inl rfl)
  ·exact .inl (.inr ⟨v,(hb.cell (p:=⟨g,5,none⟩) hg).symm.trans h1,h2⟩)⟩
theorem waveF_of {w:World} {g b:Nat} {cs:Array Value} {t:TypeId} {fr:Nat×Nat} {v:Value} (hh:w.heap[g]? =some (.cells cs t fr)) (hc:cs[5]? =some v) :waveF w g b↔b=g∨v.ownBlock=some b:=by
 unfold waveF;rw [show w.cell? ⟨g,5,none⟩ =some v by rw [cell_of_row _ _ _ _ _ _ hh];exact hc];refine or_congr Iff.rfl ⟨fun ⟨u,h1,h2⟩=> ?_,fun h=>⟨v,rfl,h⟩⟩
 cases h1
 exact h2
def WavePost (w:World) (base g:Nat) (s':WS) (r:Value) (e:Ending) (w':World) :Prop:=
 e=.returned r∧WaveAt w' base g s'∧Below base w w'∧KeepT [173,176] w w'∧WTurn g w w'
theorem heap_setCell_at {w:World} {g i:Nat} {cs:Array Value} {t:TypeId} (h:w.heap[g]? =some (.cells cs t (0,0))) (u:Value) : (w.setCell ⟨g,i,none⟩ u).heap[g]? =some (.cells (cs.setIfInBounds i u) t (0,0)):=by
 simp [World.setCell,Array.getElem?_modify,h]
theorem store_items {w1:World} {base g:Nat} {s:WS} {v v':Value} {l:List It} (hh:w1.heap[g]? =some (.cells (waveCells s v) 173 (0,0))) (hg:base≤g) (ho:Own w1 base 176 encI v' l) :
 WaveAt (w1.setCell ⟨g,5,none⟩ v') base g {s with items:=l}:=
 ⟨v',heap_setCell_at hh v',hg,ho.setCell (ho.ne_block hh (by decide)) _⟩
theorem WaveAt.count {w:World} {base g:Nat} {s s':WS} (h:WaveAt w base g s) (i:Nat) (u:Value) (hi: ∀v,(waveCells s v).setIfInBounds i u=waveCells s' v) (hs:s'.items=s.items) :WaveAt (w.setCell ⟨g,i,none⟩ u) base g s':=by
 obtain⟨v,hh,hg,ho⟩:=h;exact⟨v,by rw [←hi v];exact heap_setCell_at hh u,hg,by rw [hs];exact ho.setCell (ho.ne_block hh (by decide)) _⟩
theorem WaveAt.below {w w':World} {base g:Nat} {s:WS} (h:WaveAt w base g s) (hb:Below w.heap.size w w') :WaveAt w' base g s:=by
 obtain⟨v,hh,hg,ho⟩:=h;exact⟨v,(hb.block g (lB hh)).trans hh,hg,ho.below hb⟩
theorem WavePost.of_below {w w':World} {base g:Nat} {s:WS} {r:Value} (h:WaveAt w base g s) (hb:base≤w.heap.size) (hB:Below w.heap.size w w') :WavePost w base g s r (.returned r) w':=
 ⟨rfl,h.below hB,hB.mono hb,.of_below hB,.of_below (by obtain⟨v,hh,_⟩:=h;exact lB hh) hB⟩
theorem store_post {w wd w1:World} {base g:Nat} {s:WS} {l0 l:List It} {v v0 v':Value} (hb:base≤w.heap.size) (hh:w.heap[g]? =some (.cells (waveCells s v) 173 (0,0))) (hg:base≤g) (hd:Below w.heap.size w wd)
 (ho:Own wd base 176 encI v0 l0) (hgrow:wd.grownBy w1 v0.ownBlock) (ho1:Own w1 base 176 encI v' l) (hv0: ∀b,v0.ownBlock=some b→v.ownBlock=some b) (hl:v'.ownBlock=v0.ownBlock∨v'.ownBlock=some wd.heap.size) (r:Value) :WavePost w base g {s with items:=l} r (.returned r) (w1.setCell ⟨g,5,none⟩ v'):=by
 have hh1:wd.heap[g]? =some (.cells (waveCells s v) 173 (0,0)):=(hd.block g (lB hh)).trans hh;have hn:=ho.ne_block hh1 (by decide);have hh2:w1.heap[g]? =some (.cells (waveCells s v) 173 (0,0)):=(hgrow.block g (lB hh1) (Ne.symm hn)).trans hh1;have hF: ∀b,waveF w g b↔b=g∨v.ownBlock=some b:=fun b=>waveF_of hh rfl;have hF': ∀b,waveF (w1.setCell ⟨g,5,none⟩ v') g b↔b=g∨v'.ownBlock=some b:=fun b=>waveF_of (heap_setCell_at hh2 v') rfl;refine⟨rfl,store_items hh2 hg ho1,?_,?_,lB hh,?_,?_⟩
 ·exact((hd.mono hb).grown hgrow (Nat.le_trans hb hd.size) fun k hk=>(ho.lt k hk).1).setCell hg _
 ·exact((KeepT.of_below hd).grown ho hgrow (by simp)).setCell hh2 (by simp) _
 ·exact((Turn.of_below hd).grown hgrow fun b hb=>.inl ((hF b).2 (.inr (hv0 b hb)))).setCell (.inl ((hF g).2 (.inl rfl))) _
 ·intro b hf
  rcases (hF' b).1 hf with rfl|hf
  ·exact .inl ((hF b).2 (.inl rfl))
  ·rcases hl with hl|hl
   ·exact .inl ((hF b).2 (.inr (hv0 b (hl ▸ hf))))
   ·right
    rw [hl] at hf;obtain rfl:=Option.some.inj hf;exact hd.size
theorem wave_put (w:World) (base g:Nat) (s:WS) (x:It) (h:WaveAt w base g s) (hlen:s.items.length≤256) (hb:base≤w.heap.size) :
 Calls Tryz.prog 110 #[.pointer (some ⟨g,0,none⟩),.agg #[.int .i64 x.1,.string x.2]] w
  (WavePost w base g (if s.items.length=256 then s else {s with items:=s.items ++ [x]}) (.int .i64 (if s.items.length=256 then 21 else 0))):=by
 obtain⟨v,hh,hg,ho⟩:=h;obtain⟨A,cap,rfl,_,hm,hS,_⟩:=ho.form;have c5:w.cell? ⟨g,5,none⟩ =some (.slice A s.items.length cap):=by rw [cell_of_row _ _ _ _ _ _ hh];rfl
 have lg:g<w.heap.size:=lB hh;by_cases hfull:s.items.length=256
 ·rw [if_pos hfull,if_pos hfull]
  have ht: (256:Int)≤(s.items.length:Int):=by omega
  go_enter Tryz.func110,Tryz.ntmps110
  go_wp2;go_ret;exact WavePost.of_below ⟨_,hh,hg,ho⟩ hb bE
 ·rw [if_neg hfull,if_neg hfull]
  have ht: ¬(256:Int)≤(s.items.length:Int):=by omega
  have HO:=LH ho;clear ho
  go_enter Tryz.func110,Tryz.ntmps110
  go_wp2_with fail;have n1:=HO.out.ne_block hh (by decide);have n2:=HO.out.not_at w.heap.size (Nat.le_refl _);have fg:w.frozen? ⟨g,5,none⟩ =false:=by simp [World.frozen?,hh]
  go_region_law ((refine step_app tyI (by rfl) _ _ (by rfl) encI base _ _ (by rfl) ((HO.out.alloc _).alloc _).drew (some ⟨w.heap.size+1,0,none⟩) 1 [x] _ (by rfl) (sl_lit (w.alloc (Obj.cells #[.int .i64 x.1,.string x.2] 176)) encI [x] _ (w.heap.size+1) (by simp)).drew (by simp;omega) (by simp [maxLen];omega) (by simp;omega) ?_;intro v' w1 ho1 hgrow hlies hb1 _;obtain⟨A',c',rfl,_,_,_,_⟩:=ho1.form;have e5:=(grown_cell hgrow g (by simp;omega) n1 5).trans (by simp [go_sem,c5,lg] :_=some (Value.slice A s.items.length cap));have e6:=(grown_frozen hgrow g (by simp;omega) n1 5).trans (by simp [go_sem,fg,lg] :_=false)))
  all_goals
   rw [show (s.items ++ [x]).length=s.items.length+1 by simp] at ho1 hlies;go_wp2;go_ret;exact store_post hb hh hg (Below.allocW (Below.allocW (Below.refl _ _) _) _).drew ((HO.out.alloc _).alloc _).drew hgrow ho1 (fun _ h=>h) hlies _
@[go_sem] theorem run_field_counted (w:World) (p:Option Addr) : (Instr.field 179 (.agg #[.pointer p]) 0).run Tryz.prog w=.ok (.pointer p) w:=by kernel_rfl
theorem wave_with (w:World) (g:Nat) :Calls Tryz.prog 111 #[.pointer (some ⟨g,0,none⟩)] w fun e w'=>e=.returned (.agg #[.pointer (some ⟨g,0,none⟩)])∧Below w.heap.size w w':=by
 go_enter Tryz.func111,Tryz.ntmps111
 go_wp2;exact bR (v:=.agg #[.pointer (some ⟨g,0,none⟩)]) (by simp only [results,Tryz.results111];go_simp) rfl ⟨rfl,bE⟩
theorem wave_sent (w:World) (g:Nat) (n:Nat) (hn:n<4611686018427387904) (hc:w.cell? ⟨g,0,none⟩ =some (.int .i64 n)) (hf:w.frozen? ⟨g,0,none⟩ =false) :
 Calls Tryz.prog 172 #[.pointer (some ⟨g,0,none⟩)] w fun e w'=>e=.returned (.tuple #[])∧w.setCell ⟨g,0,none⟩ (.int .i64 ((n+1:Nat) :Int)) =w':=by
 go_enter Tryz.func172,Tryz.ntmps172
 go_wp2
 go_end0
 exact⟨rfl,by simp⟩
theorem wave_copied (w:World) (g:Nat) (n:Nat) (hn:n<4611686018427387904) (hc:w.cell? ⟨g,3,none⟩ =some (.int .i64 n)) (hf:w.frozen? ⟨g,3,none⟩ =false) :
 Calls Tryz.prog 112 #[.pointer (some ⟨g,0,none⟩)] w fun e w'=>e=.returned (.tuple #[])∧w.setCell ⟨g,3,none⟩ (.int .i64 ((n+1:Nat) :Int)) =w':=by
 go_enter Tryz.func112,Tryz.ntmps112
 go_wp2
 go_end0
 exact⟨rfl,by simp⟩
structure WaveRel (w:World) (base g:Nat) (s':WS) (w':World) :Prop where
 at_:WaveAt w' base g s'
 below:Below base w w'
 keep:KeepT [173,176] w w'
 turn:WTurn g w w'
theorem WavePost.rel {w w':World} {base g:Nat} {s':WS} {r:Value} {e:Ending} (h:WavePost w base g s' r e w') :e=.returned r∧WaveRel w base g s' w':=⟨h.1,h.2.1,h.2.2.1,h.2.2.2.1,h.2.2.2.2⟩
theorem WaveRel.post {w w':World} {base g:Nat} {s':WS} {r:Value} (h:WaveRel w base g s' w') :WavePost w base g s' r (.returned r) w':=⟨rfl,h.at_,h.below,h.keep,h.turn⟩
theorem WaveRel.refl {w:World} {base g:Nat} {s:WS} (h:WaveAt w base g s) :WaveRel w base g s w:=⟨h,Below.refl _ _,.refl _ _,.of_below (by obtain⟨v,hh,_⟩:=h;exact lB hh) (Below.refl _ _)⟩
theorem WaveRel.then_ {w w1 w2:World} {base g:Nat} {s1 s2:WS} (h:WaveRel w base g s1 w1) (k:WaveRel w1 base g s2 w2) :WaveRel w base g s2 w2:=⟨k.at_,h.below.trans k.below,h.keep.trans k.keep,h.turn.trans k.turn⟩
theorem WaveRel.more {w w1 w2:World} {base g:Nat} {s1:WS} (h:WaveRel w base g s1 w1) (hb:base≤w.heap.size) (k:Below w1.heap.size w1 w2) :WaveRel w base g s1 w2:=
 ⟨h.at_.below k,h.below.trans (k.mono (Nat.le_trans hb h.below.size)),h.keep.trans (.of_below k),h.turn.trans (.of_below (Nat.lt_of_lt_of_le h.turn.1 h.turn.2.1.size) k)⟩
theorem WaveRel.count {w w1:World} {base g:Nat} {s1 s2:WS} (h:WaveRel w base g s1 w1) (i:Nat) (u:Value) (hi: ∀v,(waveCells s1 v).setIfInBounds i u=waveCells s2 v) (hs:s2.items=s1.items) :WaveRel w base g s2 (w1.setCell ⟨g,i,none⟩ u):=by
 have hk:=h.at_.count i u hi hs;obtain⟨v,hh,hg,ho⟩:=h.at_;have hh2: (w1.setCell ⟨g,i,none⟩ u).heap[g]? =some (.cells (waveCells s2 v) 173 (0,0)):=by rw [←hi v];exact heap_setCell_at hh u
 refine⟨hk,h.below.setCell hg _,h.keep.setCell hh (by simp) _,h.turn.1,h.turn.2.1.setCell (h.turn.2.2 g (.inl rfl)) _,fun b hf=>h.turn.2.2 b ((waveF_of hh rfl).2 ((waveF_of hh2 rfl).1 hf))⟩
theorem WaveAt.cell {w:World} {base g:Nat} {s:WS} (h:WaveAt w base g s) (i:Nat) (u:Value) (hi: ∀v,(waveCells s v)[i]? =some u) :w.cell? ⟨g,i,none⟩ =some u:=by
 obtain⟨v,hh,hg,ho⟩:=h;rw [cell_of_row _ _ _ _ _ _ hh,hi]
theorem WaveAt.frozen {w:World} {base g:Nat} {s:WS} (h:WaveAt w base g s) (i:Nat) :w.frozen? ⟨g,i,none⟩ =false:=by
 obtain⟨v,hh,hg,ho⟩:=h;simp [World.frozen?,hh]
def WS.small (s:WS) :Prop:=s.sent<4611686018427387904∧s.taken<4611686018427387904∧s.lost<4611686018427387904∧s.copied<4611686018427387904∧s.spoilt<4611686018427387904
def WS.send (s:WS) (x:It) :WS×Nat:=if s.items.length=256 then (s,21) else ({s with items:=s.items ++ [x],sent:=s.sent+1},0)
theorem wave_Send (w:World) (base g:Nat) (s:WS) (x:It) (h:WaveAt w base g s) (hs:s.small) (hlen:s.items.length≤256) (hb:base≤w.heap.size) :
 Calls Tryz.prog 108 #[.pointer (some ⟨g,0,none⟩),.int .i64 x.1,.string x.2] w (WavePost w base g (s.send x).1 (.int .i64 (s.send x).2)):=by
 have HP:=LH (wave_put w base g s x h hlen hb);have HH:=LH h;clear h;by_cases hfull:s.items.length=256
 ·rw [if_pos hfull,if_pos hfull] at HP
  have e1:s.send x= (s,21):=by simp [WS.send,hfull]
  rw [e1]
  go_enter Tryz.func108,Tryz.ntmps108
  go_wp2_with fail;refine HP.out.mono ?_;intro e w1 hp;obtain⟨rfl,hr⟩:=hp.rel;go_wp2_with fail;go_ret;exact hr.post
 ·rw [if_neg hfull,if_neg hfull] at HP
  have e1:s.send x= ({s with items:=s.items ++ [x],sent:=s.sent+1},0):=by simp [WS.send,hfull]
  rw [e1]
  go_enter Tryz.func108,Tryz.ntmps108
  go_wp2_with fail;refine HP.out.mono ?_;intro e w1 hp;obtain⟨rfl,hr⟩:=hp.rel;go_wp2_with fail;refine(wave_with _ _).mono ?_;rintro e w2 ⟨rfl,hb2⟩;have hr2:=hr.more hb hb2;go_wp2_with fail;refine(wave_sent _ _ s.sent hs.1 (hr2.at_.cell 0 _ (fun _=>rfl)) (hr2.at_.frozen 0)).mono ?_;rintro e w3 ⟨rfl,rfl⟩;go_wp2_with fail;go_ret;exact(hr2.count (s2:={s with items:=s.items ++ [x],sent:=s.sent+1}) 0 _ (fun _=>rfl) rfl).post
theorem wave_Len (w:World) (base g:Nat) (s:WS) (h:WaveAt w base g s) :Calls Tryz.prog 50 #[.pointer (some ⟨g,0,none⟩)] w fun e w'=>e=.returned (.int .i64 s.items.length)∧Below w.heap.size w w':=by
 obtain⟨v,hh,hg,ho⟩:=h;obtain⟨A,cap,rfl,_,hm,_,_⟩:=ho.form;have c5:w.cell? ⟨g,5,none⟩ =some (.slice A s.items.length cap):=by rw [cell_of_row _ _ _ _ _ _ hh];rfl
 go_enter Tryz.func50,Tryz.ntmps50
 go_wp2;go_ret;exact⟨rfl,bE⟩
def WS.has (s:WS) (i:Int) :Bool:=decide (0≤i) && decide (i<s.items.length)
theorem WS.has_tt {s:WS} {i:Int} (h:s.has i=true) : ∃k:Nat,i=k∧k<s.items.length:=by
 simp [WS.has] at h
 exact⟨i.toNat,by omega,by omega⟩
theorem wave_has (w:World) (base g:Nat) (s:WS) (i:Int) (h:WaveAt w base g s) :Calls Tryz.prog 132 #[.pointer (some ⟨g,0,none⟩),.int .i64 i] w fun e w'=>e=.returned (.bool (s.has i))∧Below w.heap.size w w':=by
 have HH:=LH h;clear h;by_cases h0:0≤i
 ·go_enter Tryz.func132,Tryz.ntmps132
  go_wp2_with fail;refine(wave_Len _ base g s HH.out).mono ?_;rintro e w1 ⟨rfl,hb1⟩;have B1:Below w.heap.size w w1:=Below.then_ bE hb1;have s1:=B1.size;go_wp2_with fail;go_ret;exact⟨ret_bool (by simp [WS.has,h0]),bE⟩
 ·go_enter Tryz.func132,Tryz.ntmps132
  go_wp2_with fail;go_ret;exact⟨ret_bool (by simp [WS.has];omega),bE⟩
def WS.at_ (s:WS) (i:Int) :Int×ByteArray×Bool:=if s.has i then ((s.items.getD i.toNat (0,⟨#[]⟩)).1,(s.items.getD i.toNat (0,⟨#[]⟩)).2,true) else (0,⟨#[]⟩,false)
def atV (r:Int×ByteArray×Bool) :Value:=.tuple #[.int .i64 r.1,.string r.2.1,.bool r.2.2]
theorem wave_At (w:World) (base g:Nat) (s:WS) (i:Int) (h:WaveAt w base g s) :Calls Tryz.prog 69 #[.pointer (some ⟨g,0,none⟩),.int .i64 i] w fun e w'=>e=.returned (atV (s.at_ i))∧Below w.heap.size w w':=by
 have HH:=LH h
 cases hb:s.has i
 ·have e1:s.at_ i= (0,⟨#[]⟩,false):=by simp [WS.at_,hb]
  have E1:=LH e1;clear e1 h
  go_enter Tryz.func69,Tryz.ntmps69
  go_wp2_with fail;refine(wave_has _ base g s i HH.out).mono ?_;rintro e w1 ⟨rfl,hb1⟩;have B1:Below w.heap.size w w1:=Below.then_ bE hb1;have s1:=B1.size;rw [hb];go_wp2_with fail
  go_ret3
  exact⟨by rw [E1.out];rfl,bE⟩
 ·obtain⟨k,rfl,hk⟩:=WS.has_tt hb
  obtain⟨v,hh,hg,ho⟩:=h;obtain⟨A,cap,rfl,hlc,hm,hS,_⟩:=ho.form;obtain⟨b,off,rfl,hbb,hc⟩:=hS.at_ hk;have lg:=lB hh;have e1:s.at_ k= (s.items[k].1,s.items[k].2,true):=by simp [WS.at_,hb,hk]
  have c5:w.cell? ⟨g,5,none⟩ =some (.slice (some ⟨b,off,none⟩) s.items.length cap):=by rw [cell_of_row _ _ _ _ _ _ hh];rfl
  have d0:=hc 0 (.int .i64 s.items[k].1) rfl;have d1:=hc 1 (.string s.items[k].2) rfl;simp only [Nat.add_zero] at d0;have E1:=LH e1;clear e1 hc hS ho hh;have i0: (0:Int)≤(k:Int):=by omega
  have i1: (k:Int) < (s.items.length:Int):=by omega
  go_enter Tryz.func69,Tryz.ntmps69
  go_wp2_with fail;refine(wave_has _ base g s k HH.out).mono ?_;rintro e w1 ⟨rfl,hb1⟩;have B1:Below w.heap.size w w1:=Below.then_ bE hb1;have s1:=B1.size;have c5':=(hb1.cell (p:=⟨g,5,none⟩) lg).trans c5;have d0':=(hb1.cell (p:=⟨b,_,none⟩) hbb).trans d0;have d1':=(hb1.cell (p:=⟨b,_,none⟩) hbb).trans d1;have lg1:g<w1.heap.size:=Nat.lt_of_lt_of_le lg s1;have lb1:b<w1.heap.size:=Nat.lt_of_lt_of_le hbb s1;clear c5 d0 d1;rw [hb];go_wp2_with fail;refine rX (by kernel_rfl) (by kernel_rfl) ?_
  repeat (go_big_quiet_step (fail))
  refine wpQuiet_nil ?_;intro w2 hb2;replace hb2:=bX hb2;have B2:Below w.heap.size w w2:=Below.then_ bE hb2;have s2:=B2.size;go_wp2_with fail
  go_ret3
  exact⟨by rw [E1.out];rfl,bE⟩
def WS.cut (s:WS) (k:Nat) :WS:={s with items:=s.items.take k ++ s.items.drop (k+1)}
theorem cut_src {w:World} {B b off cap:Nat} {l:List It} (h:Sl w B encI (some ⟨b,off,none⟩) l) (hc:l.length≤cap) (k:Nat) :
 ∃A,(if cap=k+1 then some (⟨b,off,none⟩ :Addr) else some ⟨b,off+ (k+1) *2,none⟩) =A∧Sl w B encI A (l.drop (k+1))∧(l.drop (k+1)).length=l.length - (k+1):=by
 by_cases he:cap=k+1
 ·exact⟨_,rfl,.inl (List.drop_eq_nil_of_le (by omega)),by simp⟩
 ·exact⟨_,rfl,by rw [if_neg he];exact h.drop (k+1),by simp⟩
theorem wave_cut (w:World) (base g:Nat) (s:WS) (k:Nat) (h:WaveAt w base g s) (hk:k<s.items.length) (hlen:s.items.length≤256) (hb:base≤w.heap.size) :
 Calls Tryz.prog 113 #[.pointer (some ⟨g,0,none⟩),.int .i64 k] w (WavePost w base g (s.cut k) (.tuple #[])):=by
 obtain⟨v,hh,hg,ho⟩:=h;obtain⟨A,cap,rfl,hlc,hm,hS,_⟩:=ho.form;obtain⟨b,off,rfl,hbb,_⟩:=hS.at_ hk;obtain⟨A2,hA2,hS2,hl2⟩:=cut_src hS hlc k;have HS2:=LH hS2;have HO:=LH (ho.pre (Nat.le_of_lt hk));have lg:=lB hh;have fg:w.frozen? ⟨g,5,none⟩ =false:=by simp [World.frozen?,hh]
 have c5:w.cell? ⟨g,5,none⟩ =some (.slice (some ⟨b,off,none⟩) s.items.length cap):=by rw [cell_of_row _ _ _ _ _ _ hh];rfl
 have i0: (0:Int)≤(k:Int):=by omega
 have i1: (k:Int) < (s.items.length:Int):=by omega
 have i2: (k:Int)≤(cap:Int):=by omega
 have i3: (k:Int) +1≤(s.items.length:Int):=by omega
 have i4: (0:Int)≤(k:Int) +1:=by omega
 have j1:IntKind.i64.wrap ((k:Int) +1) = (k:Int) +1:=IntWalk.i64_in _ (by omega);have j2: ((k:Int) +1).toNat=k+1:=by omega
 have HH:=LH hh;clear hS2 ho hS hh
 go_enter Tryz.func113,Tryz.ntmps113
 go_wp2_with fail;have n1:=HO.out.ne_block HH.out (by decide);have hlen2: ((s.items.take k).length+ (s.items.drop (k+1)).length)≤256:=by simp;omega
 have HL:=LH hlen2;have HL2:=LH hl2;clear hlen2 hl2
 go_region_law ((refine step_app tyI (by rfl) _ _ (by rfl) encI base _ _ (by rfl) HO.out.drew A2 (cap - (k+1)) (s.items.drop (k+1)) _ (by rw [HL2.out];rfl) HS2.out.drew (by have:=HL.out;omega) (by have:=HL.out;simp only [maxLen];omega) (by exact hb) ?_;intro v' w1 ho1 hgrow hlies hb1 _;obtain⟨A',c',rfl,_,_,_,_⟩:=ho1.form;have e5:=(grown_cell hgrow g lg n1 5).trans (c5:_=some (Value.slice (some ⟨b,off,none⟩) s.items.length cap));have e6:=(grown_frozen hgrow g lg n1 5).trans (fg:_=false)))
 all_goals
  go_end0
  rw [show (s.items.take k ++ s.items.drop (k+1)).length=min k s.items.length+ (s.items.length - (k+1)) by simp] at ho1 hlies;exact store_post hb HH.out hg (Below.refl _ _).drew HO.out.drew hgrow ho1 (fun _ h=>h) hlies _
def WS.wrong (s:WS) (i:Int) :Nat:=if s.has i then 0 else 2
theorem wave_wrong (w:World) (base g:Nat) (s:WS) (i:Int) (h:WaveAt w base g s) :Calls Tryz.prog 109 #[.pointer (some ⟨g,0,none⟩),.int .i64 i] w fun e w'=>e=.returned (.int .i64 (s.wrong i))∧Below w.heap.size w w':=by
 have HH:=LH h;clear h
 cases hb:s.has i
 all_goals
  have e1: ∀b,s.has i=b→s.wrong i=if b then 0 else 2:=fun b h=>by simp [WS.wrong,h]
  have E1:=LH (e1 _ hb);clear e1
  go_enter Tryz.func109,Tryz.ntmps109
  go_wp2_with fail;refine(wave_has _ base g s i HH.out).mono ?_;rintro e w1 ⟨rfl,hb1⟩;have B1:Below w.heap.size w w1:=Below.then_ bE hb1;have s1:=B1.size;rw [hb];go_wp2_with fail;go_ret;exact⟨by rw [E1.out];rfl,bE⟩
def WS.take (s:WS) (i:Int) :WS:=if s.has i then {s.cut i.toNat with taken:=s.taken+1} else s
theorem wave_Take (w:World) (base g:Nat) (s:WS) (i:Int) (h:WaveAt w base g s) (hs:s.small) (hlen:s.items.length≤256) (hb:base≤w.heap.size) :
 Calls Tryz.prog 53 #[.pointer (some ⟨g,0,none⟩),.int .i64 i] w (WavePost w base g (s.take i) (atV (s.at_ i))):=by
 have HH:=LH h;clear h
 cases hi:s.has i
 ·have e1:s.at_ i= (0,⟨#[]⟩,false):=by simp [WS.at_,hi]
  have e2:s.take i=s:=by simp [WS.take,hi]
  rw [e1,e2]
  go_enter Tryz.func53,Tryz.ntmps53
  go_wp2_with fail;refine(wave_At _ base g s i HH.out).mono ?_;rintro e w1 ⟨rfl,hb1⟩;rw [e1];unfold atV;go_wp2_with fail
  go_ret3
  exact WavePost.of_below HH.out hb hb1
 ·obtain⟨k,rfl,hk⟩:=WS.has_tt hi
  have e1:s.at_ k= (s.items[k].1,s.items[k].2,true):=by simp [WS.at_,hi,hk]
  have e2:s.take k= {s.cut k with taken:=s.taken+1}:=by simp [WS.take,hi]
  rw [e1,e2]
  go_enter Tryz.func53,Tryz.ntmps53
  go_wp2_with fail;refine(wave_At _ base g s k HH.out).mono ?_;rintro e w1 ⟨rfl,hb1⟩;rw [e1];unfold atV;go_wp2_with fail;refine(wave_cut _ base g s k (HH.out.below hb1) hk hlen (Nat.le_trans hb hb1.size)).mono ?_;intro e w2 hp;obtain⟨rfl,hr0⟩:=hp.rel;have hr:=(WaveRel.more (WaveRel.refl HH.out) hb hb1).then_ hr0;go_wp2_with fail;refine(wave_with _ _).mono ?_;rintro e w3 ⟨rfl,hb3⟩;have hr3:=hr.more hb hb3;have q1:=hr3.at_.cell 1 (.int .i64 s.taken) (fun _=>rfl);have q2:=hr3.at_.frozen 1;have q3: (s.taken:Int) <4611686018427387904:=by have:=hs;unfold WS.small at this;omega
  go_wp2_with fail
  go_ret3
  exact(hr3.count (s2:={s.cut k with taken:=s.taken+1}) 1 _ (fun _=>rfl) rfl).post
def WS.lose (s:WS) (i:Int) :WS×Nat:=if s.has i then ({s.cut i.toNat with lost:=s.lost+1},0) else (s,2)
theorem wave_Lose (w:World) (base g:Nat) (s:WS) (i:Int) (h:WaveAt w base g s) (hs:s.small) (hlen:s.items.length≤256) (hb:base≤w.heap.size) :
 Calls Tryz.prog 139 #[.pointer (some ⟨g,0,none⟩),.int .i64 i] w (WavePost w base g (s.lose i).1 (.int .i64 (s.lose i).2)):=by
 have HH:=LH h;clear h
 cases hi:s.has i
 ·have e1:s.wrong i=2:=by simp [WS.wrong,hi]
  have e2:s.lose i= (s,2):=by simp [WS.lose,hi]
  rw [e2]
  go_enter Tryz.func139,Tryz.ntmps139
  go_wp2_with fail;refine(wave_wrong _ base g s i HH.out).mono ?_;rintro e w1 ⟨rfl,hb1⟩;rw [e1];go_wp2_with fail;go_ret;exact WavePost.of_below HH.out hb hb1
 ·obtain⟨k,rfl,hk⟩:=WS.has_tt hi
  have e1:s.wrong k=0:=by simp [WS.wrong,hi]
  have e2:s.lose k= ({s.cut k with lost:=s.lost+1},0):=by simp [WS.lose,hi]
  rw [e2]
  go_enter Tryz.func139,Tryz.ntmps139
  go_wp2_with fail;refine(wave_wrong _ base g s k HH.out).mono ?_;rintro e w1 ⟨rfl,hb1⟩;rw [e1];go_wp2_with fail;refine(wave_cut _ base g s k (HH.out.below hb1) hk hlen (Nat.le_trans hb hb1.size)).mono ?_;intro e w2 hp;obtain⟨rfl,hr0⟩:=hp.rel;have hr:=(WaveRel.more (WaveRel.refl HH.out) hb hb1).then_ hr0;go_wp2_with fail;refine(wave_with _ _).mono ?_;rintro e w3 ⟨rfl,hb3⟩;have hr3:=hr.more hb hb3;have q1:=hr3.at_.cell 2 (.int .i64 s.lost) (fun _=>rfl);have q2:=hr3.at_.frozen 2;have q3: (s.lost:Int) <4611686018427387904:=by have:=hs;unfold WS.small at this;omega
  go_wp2_with fail;go_ret;exact(hr3.count (s2:={s.cut k with lost:=s.lost+1}) 2 _ (fun _=>rfl) rfl).post
def WS.copy (s:WS) (i:Int) :WS×Nat:=if s.has i then (if s.items.length=256 then (s,21) else ({s with items:=s.items ++ [s.items.getD i.toNat (0,⟨#[]⟩)],copied:=s.copied+1},0)) else (s,2)
theorem wave_Copy (w:World) (base g:Nat) (s:WS) (i:Int) (h:WaveAt w base g s) (hs:s.small) (hlen:s.items.length≤256) (hb:base≤w.heap.size) :
 Calls Tryz.prog 52 #[.pointer (some ⟨g,0,none⟩),.int .i64 i] w (WavePost w base g (s.copy i).1 (.int .i64 (s.copy i).2)):=by
 have HH:=LH h;clear h
 cases hi:s.has i
 ·have e1:s.wrong i=2:=by simp [WS.wrong,hi]
  have e2:s.copy i= (s,2):=by simp [WS.copy,hi]
  rw [e2]
  go_enter Tryz.func52,Tryz.ntmps52
  go_wp2_with fail;refine(wave_wrong _ base g s i HH.out).mono ?_;rintro e w1 ⟨rfl,hb1⟩;rw [e1];go_wp2_with fail;go_ret;exact WavePost.of_below HH.out hb hb1
 ·obtain⟨k,rfl,hk⟩:=WS.has_tt hi
  have e1:s.wrong k=0:=by simp [WS.wrong,hi]
  obtain⟨v,hh,hg,ho⟩:=HH.out;obtain⟨A,cap,rfl,hlc,hm,hS,_⟩:=ho.form;obtain⟨b,off,rfl,hbb,hc⟩:=hS.at_ hk;have lg:=lB hh;have c5:w.cell? ⟨g,5,none⟩ =some (.slice (some ⟨b,off,none⟩) s.items.length cap):=by rw [cell_of_row _ _ _ _ _ _ hh];rfl
  have d0:=hc 0 (.int .i64 s.items[k].1) rfl;have d1:=hc 1 (.string s.items[k].2) rfl;simp only [Nat.add_zero] at d0;clear hc hS ho hh;have i0: (0:Int)≤(k:Int):=by omega
  have i1: (k:Int) < (s.items.length:Int):=by omega
  by_cases hfull:s.items.length=256
  ·have e2:s.copy k= (s,21):=by simp [WS.copy,hi,hfull]
   rw [e2]
   go_enter Tryz.func52,Tryz.ntmps52
   go_wp2_with fail;refine(wave_wrong _ base g s k HH.out).mono ?_;rintro e w1 ⟨rfl,hb1⟩;rw [e1];have c5':=(hb1.cell (p:=⟨g,5,none⟩) lg).trans c5;have d0':=(hb1.cell (p:=⟨b,_,none⟩) hbb).trans d0;have d1':=(hb1.cell (p:=⟨b,_,none⟩) hbb).trans d1;clear c5 d0 d1;go_wp2_with fail;refine(wave_put _ base g s s.items[k] (HH.out.below hb1) hlen (Nat.le_trans hb hb1.size)).mono ?_;intro e w2 hp;obtain⟨rfl,hr0⟩:=hp.rel;rw [if_pos hfull] at hr0;rw [if_pos hfull];have hr:=(WaveRel.more (WaveRel.refl HH.out) hb hb1).then_ hr0;go_wp2_with fail;go_ret;exact hr.post
  ·have e2:s.copy k= ({s with items:=s.items ++ [s.items[k]],copied:=s.copied+1},0):=by simp [WS.copy,hi,hfull,hk]
   rw [e2]
   go_enter Tryz.func52,Tryz.ntmps52
   go_wp2_with fail;refine(wave_wrong _ base g s k HH.out).mono ?_;rintro e w1 ⟨rfl,hb1⟩;rw [e1];have c5':=(hb1.cell (p:=⟨g,5,none⟩) lg).trans c5;have d0':=(hb1.cell (p:=⟨b,_,none⟩) hbb).trans d0;have d1':=(hb1.cell (p:=⟨b,_,none⟩) hbb).trans d1;clear c5 d0 d1;go_wp2_with fail;refine(wave_put _ base g s s.items[k] (HH.out.below hb1) hlen (Nat.le_trans hb hb1.size)).mono ?_;intro e w2 hp;obtain⟨rfl,hr0⟩:=hp.rel;rw [if_neg hfull] at hr0;rw [if_neg hfull];have hr:=(WaveRel.more (WaveRel.refl HH.out) hb hb1).then_ hr0;go_wp2_with fail;refine(wave_with _ _).mono ?_;rintro e w3 ⟨rfl,hb3⟩;have hr3:=hr.more hb hb3;go_wp2_with fail;refine(wave_copied _ _ s.copied hs.2.2.2.1 (hr3.at_.cell 3 _ (fun _=>rfl)) (hr3.at_.frozen 3)).mono ?_;rintro e w4 ⟨rfl,rfl⟩;go_wp2_with fail;go_ret;exact(hr3.count (s2:={s with items:=s.items ++ [s.items[k]],copied:=s.copied+1}) 3 _ (fun _=>rfl) rfl).post
theorem wave_New (w:World) :Calls Tryz.prog 83 #[] w fun e w'=>e=.returned (.pointer (some ⟨w.heap.size,0,none⟩))∧Below w.heap.size w w'∧WaveAt w' w.heap.size w.heap.size ⟨0,0,0,0,0, []⟩:=by
 go_enter Tryz.func83,Tryz.ntmps83
 go_wp2;go_ret;exact⟨rfl,bE,.slice none 0 0,heap_alloc_new w _,Nat.le_refl _,.nil _ _ _ _⟩
end
def xorB (x b:Int) :Int:=bits .xor .u8 x b
def nums (t:ByteArray) :List Int:=t.data.toList.map fun c=>(c.toNat:Int)
def spoilT (t:ByteArray) (a:Nat) (b:Int) :ByteArray:=strOfNums ((nums t).set a (xorB ((nums t).getD a 0) b))
theorem nums_len (t:ByteArray) : (nums t).length=t.size:=by
 unfold nums;rw [List.length_map,Array.length_toList]
 rfl
structure BytesConv (t:ByteArray) (a:Nat) (x y:Int) (t':ByteArray) :Prop where
 conv: ∀W:World,(convert 9 28 (.string t)).run Tryz.prog W=.ok (.slice (some ⟨W.heap.size,0,none⟩) t.size (grownCap W t.size 0 5)) (Lib.bytesWorld W 5 t)
 size: ∀W:World,(Lib.bytesWorld W 5 t).heap.size=W.heap.size+1
 old: ∀(W:World) (b o:Nat),b<W.heap.size→(Lib.bytesWorld W 5 t).cell? ⟨b,o,none⟩ =W.cell? ⟨b,o,none⟩
 oldf: ∀(W:World) (b o:Nat),b<W.heap.size→(Lib.bytesWorld W 5 t).frozen? ⟨b,o,none⟩ =W.frozen? ⟨b,o,none⟩
 cell: ∀W:World,(Lib.bytesWorld W 5 t).cell? ⟨W.heap.size,a,none⟩ =some (.int .u8 x)
 frozen: ∀W:World,(Lib.bytesWorld W 5 t).frozen? ⟨W.heap.size,a,none⟩ =false
 back: ∀(W:World) (c:Nat),(convert 28 9 (.slice (some ⟨W.heap.size,0,none⟩) t.size c)).run Tryz.prog ((Lib.bytesWorld W 5 t).setCell ⟨W.heap.size,a,none⟩ (.int .u8 y)) =.ok (.string t') ((Lib.bytesWorld W 5 t).setCell ⟨W.heap.size,a,none⟩ (.int .u8 y))
 back1: ∀(W:World) (c:Nat),(convert 28 9 (.slice (some ⟨W.heap.size,0,none⟩) t.size c)).run Tryz.prog ((Lib.bytesWorld W 5 t).setCell ⟨W.heap.size,a,none⟩ (.int .u8 y)).drew=.ok (.string t') ((Lib.bytesWorld W 5 t).setCell ⟨W.heap.size,a,none⟩ (.int .u8 y)).drew
 backAny: ∀(W W':World) (c:Nat),(∀j,W'.cell? ⟨W.heap.size,j,none⟩ = ((Lib.bytesWorld W 5 t).setCell ⟨W.heap.size,a,none⟩ (.int .u8 y)).cell? ⟨W.heap.size,j,none⟩)→
  (convert 28 9 (.slice (some ⟨W.heap.size,0,none⟩) t.size c)).run Tryz.prog W'=.ok (.string t') W'
theorem nums_get (t:ByteArray) (j:Nat) (hj:j<t.size) : (nums t).getD j 0= ((t.data.toList.getD j 0).toNat:Int):=by
 have:j<t.data.toList.length:=by rw [Array.length_toList];exact hj
 simp [nums,List.getD,List.getElem?_eq_getElem this]
theorem bytesConv (t:ByteArray) (a:Nat) (ha:a<t.size) (b:Int) :BytesConv t a ((nums t).getD a 0) (xorB ((nums t).getD a 0) b) (spoilT t a b):=by
 have hcell: ∀(W:World) (j:Nat),j<t.size→(Lib.bytesWorld W 5 t).cell? ⟨W.heap.size,j,none⟩ =some (.int .u8 ((nums t).getD j 0)):=by
  intro W j hj;rw [Lib.bytesWorld_cell W _ t j hj,nums_get t j hj]
 have hset: ∀(W:World) (y:Int),∀i,i<t.size→((Lib.bytesWorld W 5 t).setCell ⟨W.heap.size,a,none⟩ (.int .u8 y)).cell? ⟨W.heap.size,0+i,none⟩ =some (.int .u8 (((nums t).set a y).getD i 0)):=by
  intro W y i hi;rw [Nat.zero_add];by_cases he:i=a
  ·subst he
   rw [World.cell?_setCell_same _ _ _ (hcell W i hi)];simp [List.getD,nums_len,hi]
  ·rw [World.cell?_setCell_other _ _ _ _ (by intro h;injection h;omega),hcell W i hi]
   simp [List.getD,List.getElem?_set,Ne.symm he]
 refine⟨fun W=>Lib.run_convert_string_bytes W _ _ _ t Tryz.underlying9 Tryz.underlying28 Tryz.underlying5,fun W=>Lib.bytesWorld_size W _ t,fun W b o h=>Lib.bytesWorld_old W _ t ⟨b,o,none⟩ h,
  fun W b o h=>World.frozen?_of_block (w:=W) (Lib.bytesWorld_at_old W _ t b h),fun W=>hcell W a ha,fun W=> ?_,fun W c=> ?_,fun W c=> ?_,fun W W' c hW=> ?_⟩
 ·simp only [World.frozen?,Lib.bytesWorld_at_new]
  have: (Lib.bytesCells W 5 t).size≥t.size:=by
   unfold Lib.bytesCells;rw [Array.size_append,Array.size_map];exact Nat.le_add_right _ _
  simp
  omega
 ·exact run_convert_bytes_arg _ _ _ Tryz.underlying28 Tryz.underlying5 W.heap.size 0 t.size c ((nums t).set a (xorB ((nums t).getD a 0) b)) (by simp [nums_len]) (hset W _) _ Tryz.underlying9
 ·exact run_convert_bytes_arg (P:=Tryz.prog) ((Lib.bytesWorld W 5 t).setCell ⟨W.heap.size,a,none⟩ (.int .u8 (xorB ((nums t).getD a 0) b))).drew _ _ Tryz.underlying28 Tryz.underlying5 W.heap.size 0 t.size c ((nums t).set a (xorB ((nums t).getD a 0) b)) (by simp [nums_len]) (hset W _) _ Tryz.underlying9
 ·exact run_convert_bytes_arg (P:=Tryz.prog) W' _ _ Tryz.underlying28 Tryz.underlying5 W.heap.size 0 t.size c ((nums t).set a (xorB ((nums t).getD a 0) b)) (by simp [nums_len]) (fun i hi=>by rw [hW];exact hset W _ i hi) _ Tryz.underlying9
theorem bytes_below (W:World) (e:TypeId) (t:ByteArray) :Below W.heap.size W (Lib.bytesWorld W e t):=
 ⟨rfl,rfl,rfl,by rw [Lib.bytesWorld_size];omega,fun k hk=>Lib.bytesWorld_at_old W e t k hk⟩
section
attribute [local go_sem ↓] Go.wp_at_zero Go.wp_at_succ
def WS.spoil (s:WS) (i a b:Int) :WS×Nat:=
 if s.has i=true∧0≤a∧a< ((s.items.getD i.toNat (0,⟨#[]⟩)).2.size:Int) then
  ({s with items:=s.items.set i.toNat ((s.items.getD i.toNat (0,⟨#[]⟩)).1,spoilT (s.items.getD i.toNat (0,⟨#[]⟩)).2 a.toNat b),spoilt:=s.spoilt+1},0) else (s,2)
theorem wave_Spoil_no (w:World) (base g:Nat) (s:WS) (i a b:Int) (h:WaveAt w base g s) (hb:base≤w.heap.size) (hi:s.has i=false) :
 Calls Tryz.prog 140 #[.pointer (some ⟨g,0,none⟩),.int .i64 i,.int .i64 a,.int .u8 b] w (WavePost w base g s (.int .i64 2)):=by
 have HH:=LH h;clear h;have e1:s.wrong i=2:=by simp [WS.wrong,hi]
 go_enter Tryz.func140,Tryz.ntmps140
 go_wp2_with fail;refine(wave_wrong _ base g s i HH.out).mono ?_;rintro e w1 ⟨rfl,hb1⟩;rw [e1];go_wp2_with fail;go_ret;exact WavePost.of_below HH.out hb hb1
theorem wave_Spoil_arg (w:World) (base g:Nat) (s:WS) (k:Nat) (a b:Int) (h:WaveAt w base g s) (hb:base≤w.heap.size) (hi:s.has k=true) (hk:k<s.items.length) (ha:a<0∨(s.items[k].2.size:Int)≤a) :
 Calls Tryz.prog 140 #[.pointer (some ⟨g,0,none⟩),.int .i64 k,.int .i64 a,.int .u8 b] w (WavePost w base g s (.int .i64 2)):=by
 have HH:=LH h;clear h;have e1:s.wrong k=0:=by simp [WS.wrong,hi]
 by_cases h0:a<0
 all_goals
  obtain⟨v,hh,hg,ho⟩:=HH.out;obtain⟨A,cap,rfl,hlc,hm,hS,_⟩:=ho.form;obtain⟨bb,off,rfl,hbb,hc⟩:=hS.at_ hk;have lg:=lB hh;have c5:w.cell? ⟨g,5,none⟩ =some (.slice (some ⟨bb,off,none⟩) s.items.length cap):=by rw [cell_of_row _ _ _ _ _ _ hh];rfl
  have d1:=hc 1 (.string s.items[k].2) rfl;clear hc hS ho hh;have i0: (0:Int)≤(k:Int):=by omega
  have i1: (k:Int) < (s.items.length:Int):=by omega
  have h1: ¬a<0→(s.items[k].2.size:Int)≤a:=fun _=>by omega
  go_enter Tryz.func140,Tryz.ntmps140
  go_wp2_with fail;refine(wave_wrong _ base g s k HH.out).mono ?_;rintro e w1 ⟨rfl,hb1⟩;rw [e1];have c5':=(hb1.cell (p:=⟨g,5,none⟩) lg).trans c5;have d1':=(hb1.cell (p:=⟨bb,_,none⟩) hbb).trans d1;clear c5 d1
  try have h2:=h1 h0
  clear h1 ha;go_wp2_with fail;go_ret;exact WavePost.of_below HH.out hb hb1
theorem spoil_rel {w W:World} {base g bb off n cap k:Nat} {s:WS} (hb:base≤w.heap.size) (hh:w.heap[g]? =some (.cells (waveCells s (.slice (some ⟨bb,off,none⟩) n cap)) 173 (0,0))) (hg:base≤g)
 (ho:Own w base 176 encI (.slice (some ⟨bb,off,none⟩) n cap) s.items) (hB:Below w.heap.size w W) (hk:k<s.items.length) (t:ByteArray) :
 WaveRel w base g {s with items:=s.items.set k (s.items[k].1,t)} (W.setCell ⟨bb,off+k*2+1,none⟩ (.string t)).drew:=by
 have hh1:=(hB.block g (lB hh)).trans hh;have ho1:=ho.below hB;have hne:=ho1.ne_block hh1 (by decide);have hbase:base≤bb:=(ho1.lt bb rfl).1;have hh2: ((W.setCell ⟨bb,off+k*2+1,none⟩ (.string t)).drew).heap[g]? =some (.cells (waveCells s (.slice (some ⟨bb,off,none⟩) n cap)) 173 (0,0)):=(Below.heap_setCell W ⟨bb,_,none⟩ _ g (by intro h;exact hne (by rw [h];rfl))).trans hh1;refine⟨⟨_,hh2,hg,(ho1.setElem k 1 hk (by decide) (.string t) (s.items[k].1,t) rfl).drew⟩,?_,?_,lB hh,?_,?_⟩
 ·exact((hB.mono hb).setCell hbase _).drew
 ·rcases ho1 with ⟨hv,_⟩ | ⟨g',o',c',cur,hv,_,hh',_⟩
  ·cases hv
  ·cases hv
   exact(KeepT.setCell (p:=⟨bb,_,none⟩) (KeepT.of_below hB) hh' (by simp) _).drew
 ·exact((Turn.of_below hB).setCell (p:=⟨bb,off+k*2+1,none⟩) (.inl ((waveF_of hh rfl).2 (.inr rfl))) _).drew
 ·exact fun b hf=>.inl ((waveF_of hh rfl).2 ((waveF_of hh2 rfl).1 hf))
theorem wave_Spoil_ok (w:World) (base g:Nat) (s:WS) (k a:Nat) (b:Int) (h:WaveAt w base g s) (hs:s.small) (hb:base≤w.heap.size) (hi:s.has k=true) (hk:k<s.items.length) (ha:a<s.items[k].2.size) (hsz:s.items[k].2.size≤maxLen) (hB:0≤b∧b≤255) :
 Calls Tryz.prog 140 #[.pointer (some ⟨g,0,none⟩),.int .i64 k,.int .i64 a,.int .u8 b] w
  (WavePost w base g {s with items:=s.items.set k (s.items[k].1,spoilT s.items[k].2 a b),spoilt:=s.spoilt+1} (.int .i64 0)):=by
 have HH:=LH h;clear h;have e1:s.wrong k=0:=by simp [WS.wrong,hi]
 have HC:=bytesConv s.items[k].2 a ha b;generalize ht:spoilT s.items[k].2 a b=t at HC⊢;generalize hx: (nums s.items[k].2).getD a 0=x at HC;have hxy:bits .xor .u8 x b=xorB x b:=rfl;generalize hy:xorB x b=y at HC hxy;have hcv:=HC.conv;have hcz:=HC.size;have hco:=HC.old;have hcf:=HC.oldf;have hcc:=HC.cell;have hcg:=HC.frozen;have hcb:=HC.back;have hcd:=HC.back1;clear HC ht hx hy;have ha1: (a:Int) < (s.items[k].2.size:Int):=by omega
 have ha0: ¬(a:Int) <0:=by omega
 have ha2: (0:Int)≤(a:Int):=by omega
 unfold maxLen at hsz;obtain⟨v,hh,hg,ho⟩:=HH.out;obtain⟨A,cap,rfl,hlc,hm,hS,_⟩:=ho.form;obtain⟨bb,off,rfl,hbb,hc⟩:=hS.at_ hk;have lg:=lB hh;have c5:w.cell? ⟨g,5,none⟩ =some (.slice (some ⟨bb,off,none⟩) s.items.length cap):=by rw [cell_of_row _ _ _ _ _ _ hh];rfl
 have d1:=hc 1 (.string s.items[k].2) rfl;have q1:=ho.frozen (off+k*2+1);have ZZ:=LH (And.intro hh (And.intro hg ho));clear hc hS ho hh;have i0: (0:Int)≤(k:Int):=by omega
 have i1: (k:Int) < (s.items.length:Int):=by omega
 go_enter Tryz.func140,Tryz.ntmps140
 go_wp2_with fail;refine(wave_wrong _ base g s k HH.out).mono ?_;rintro e w1 ⟨rfl,hb1⟩;rw [e1];have c5':=(hb1.cell (p:=⟨g,5,none⟩) lg).trans c5;have d1':=(hb1.cell (p:=⟨bb,_,none⟩) hbb).trans d1;have q1':=(hb1.frozen (p:=⟨bb,_,none⟩) hbb).trans q1;have y1:bb<w1.heap.size:=Nat.lt_of_lt_of_le hbb hb1.size;have y2:g<w1.heap.size:=Nat.lt_of_lt_of_le lg hb1.size;have y3:bb≠w1.heap.size:=by omega
 have y4:g≠w1.heap.size:=by omega
 clear q1;clear c5 d1;go_wp2_with fail
 go_region_law (fail)
 all_goals
  have hr0:=spoil_rel (k:=k) hb ZZ.out.1 ZZ.out.2.1 ZZ.out.2.2 (((hb1.trans ((bytes_below w1 5 s.items[k].2).mono hb1.size))).setCell (p:=⟨w1.heap.size,a,none⟩) hb1.size (.int .u8 y)) hk t;go_wp2_with fail;refine(wave_with _ _).mono ?_;rintro e w3 ⟨rfl,hb3⟩;have hr3:=hr0.more hb hb3;have q1:=hr3.at_.cell 4 (.int .i64 s.spoilt) (fun _=>rfl);have q2:=hr3.at_.frozen 4;have q3: (s.spoilt:Int) <4611686018427387904:=by have:=hs;unfold WS.small at this;omega
  go_wp2_with fail;go_ret;exact(hr3.count (s2:={s with items:=s.items.set k (s.items[k].1,t),spoilt:=s.spoilt+1}) 4 _ (fun _=>rfl) rfl).post
theorem wave_Spoil (w:World) (base g:Nat) (s:WS) (i a b:Int) (h:WaveAt w base g s) (hs:s.small) (hb:base≤w.heap.size) (hsz: ∀x∈s.items,x.2.size≤maxLen) (hB:0≤b∧b≤255) :
 Calls Tryz.prog 140 #[.pointer (some ⟨g,0,none⟩),.int .i64 i,.int .i64 a,.int .u8 b] w (WavePost w base g (s.spoil i a b).1 (.int .i64 (s.spoil i a b).2)):=by
 cases hi:s.has i
 ·have e:s.spoil i a b= (s,2):=by simp [WS.spoil,hi]
  rw [e];exact wave_Spoil_no w base g s i a b h hb hi
 ·obtain⟨k,rfl,hk⟩:=WS.has_tt hi
  by_cases ha:0≤a∧a< (s.items[k].2.size:Int)
  ·obtain⟨a',rfl⟩:=Int.eq_ofNat_of_zero_le ha.1
   have e:s.spoil k a' b= ({s with items:=s.items.set k (s.items[k].1,spoilT s.items[k].2 a' b),spoilt:=s.spoilt+1},0):=by
    unfold WS.spoil;rw [if_pos ⟨hi,by simpa [hk] using ha⟩];simp [hk]
   rw [e];exact wave_Spoil_ok w base g s k a' b h hs hb hi hk (by omega) (hsz _ (List.getElem_mem hk)) hB
  ·have e:s.spoil k a b= (s,2):=by
    unfold WS.spoil;rw [if_neg];intro hc;exact ha (by simpa [hk] using hc.2)
   rw [e];exact wave_Spoil_arg w base g s k a b h hb hi hk (by omega)
end
def encB8:Enc UInt8 1:=⟨fun b=> [.int .u8 (b.toNat:Int)],fun _=>rfl,by intro x u hu;simp at hu;subst hu;rfl⟩
theorem tyU8:SliceTy Tryz.prog 28 5 1 1 (.int .u8 0):=⟨Tryz.underlying28,by kernel_rfl,rfl,by decide⟩
def oneB (n:Nat) :List UInt8:=if h:128≤n then UInt8.ofNat (n % 128+128) :: oneB (n / 128) else [UInt8.ofNat n]
termination_by n
decreasing_by omega
theorem oneB_ge {n:Nat} (h:128≤n) :oneB n=UInt8.ofNat (n % 128+128) :: oneB (n / 128):=by rw [oneB,dif_pos h]
theorem oneB_lt {n:Nat} (h: ¬128≤n) :oneB n= [UInt8.ofNat n]:=by rw [oneB,dif_neg h]
theorem oneB_len: ∀(k n:Nat),n<128^k→1≤k→(oneB n).length≤k:=by
 intro k
 induction k with
 |zero=>intro n _ h;omega
 |succ k ih=>
  intro n hn _;by_cases h:128≤n
  ·rw [oneB_ge h,List.length_cons]
   have h1:n / 128<128^k:=by rw [Nat.pow_succ] at hn;exact Nat.div_lt_of_lt_mul (by rw [Nat.mul_comm];exact hn)
   have h2:1≤k:=by
    rcases Nat.eq_zero_or_pos k with rfl|h2
    ·simp at hn;omega
    ·exact h2
   have:=ih _ h1 h2;omega
  ·rw [oneB_lt h];simp
theorem oneB_le {n:Nat} (h:n≤9223372036854775807) : (oneB n).length≤9:=oneB_len 9 n (by have: (128:Nat) ^9=9223372036854775808:=by decide
                                                                                        omega) (by decide)
theorem oneB_pos (n:Nat) :1≤(oneB n).length:=by
 rw [oneB]
 split <;> simp
theorem or_128: ∀x:Fin 256,x.val ||| 128=x.val % 128+128:=by decide
theorem byte_or (m:Nat) :bits BinOp.or IntKind.u8 (IntKind.u8.wrap (m:Int)) 128= (((UInt8.ofNat (m % 128+128)).toNat:Nat) :Int):=by
 have hw:IntKind.u8.wrap (m:Int) = ((m % 256:Nat) :Int):=by rw [IntKind.wrap_u8];omega
 have h:=(bits_nat .u8 8 (by decide) (fun n h0 h1=>by rw [IntKind.wrap_u8];omega) (m % 256) 128 (by omega) (by decide)).2;rw [hw];rw [show ((128:Int)) = ((128:Nat) :Int) from rfl,h,or_128 ⟨m % 256,by omega⟩];simp only [UInt8.toNat_ofNat']
 congr 1
 omega
theorem byte_or' (m:Nat) :bits BinOp.or IntKind.u8 ((m:Int) % 256) 128= (((UInt8.ofNat (m % 128+128)).toNat:Nat) :Int):=by
 have h:=byte_or m
 rwa [IntKind.wrap_u8] at h
theorem byte_one' {m:Nat} (h: ¬128≤m) : (m:Int) = (((UInt8.ofNat m).toNat:Nat) :Int):=by
 rw [UInt8.toNat_ofNat'];omega
theorem vary_one (w:World) (base:Nat) (v:Value) (l:List UInt8) (n:Nat) (ho:Own w base 5 encB8 v l) (hb:base≤w.heap.size) (hl:l.length≤67108864) (hn:n≤9223372036854775807) :
 Calls Tryz.prog 266 #[v,.int .i64 n] w fun e w'=>∃v',e=.returned v'∧Own w' base 5 encB8 v' (l ++ oneB n)∧Below base w w':=by
 have HO:=LH ho;have HL:=LH (oneB_le hn);clear ho
 go_enter Tryz.func266,Tryz.ntmps266
 go_wp2_with fail
 go_loopw [0,1] (fun u i wr=>∃(m:Nat) (pre:List UInt8),i=.int .i64 m∧m≤n∧Own wr base 5 encB8 u (l ++ pre)∧pre ++ oneB m=oneB n∧Below base w wr) (fun _ i _=>(intOf i).toNat)
 case atStart=>exact⟨n, [],rfl,Nat.le_refl _,by simpa using HO.out,rfl,Below.refl _ _⟩
 case round=>
  obtain⟨m,pre,rfl,hm,ho,he,hB⟩:=hrel
  have hpl:pre.length≤8:=by
   have h1:=HL.out;have h2:=oneB_pos m;rw [←he,List.length_append] at h1;omega
  have HB:=LH hB;have HE:=LH he;obtain⟨Ao,co,rfl,_⟩:=ho.form;have HOr:=LH ho;have sz:=hB.size;clear ho he hB;by_cases h:128≤m
  ·have h1: (128:Int)≤(m:Int):=by omega
   have HE2:Hid ((pre ++ [UInt8.ofNat (m % 128+128)]) ++ oneB (m / 128) =oneB n):=LH (by rw [←HE.out,oneB_ge h];simp);have hbo:=byte_or' m;obtain⟨L,hL⟩ : ∃L,L=l ++ pre:=⟨_,rfl⟩;have hLl:L.length≤67108872:=by rw [hL,List.length_append];omega
   rw [←hL] at HOr⊢;have HLe:=LH hL;clear hL;generalize UInt8.ofNat (m % 128+128) =b at hbo HE2;go_wp2_with ((at_builtin;go_loud (refine wpList_push tyU8 rfl _ _ rfl encB8 wr base (.slice Ao L.length co) L rfl HOr.out b (by go_simp) (by simp [encB8,hbo]) ?c1 ?c2 ?c3 ?c4)))
   case c1=>omega
   case c2=>unfold maxLen;omega
   case c3=>omega
   case c4=>
    intro v' w' ho' _ _ _ hb' _;have HO2:=LH ho';have HB2:=LH (HB.out.trans hb');have hsz:=hb'.size;clear ho' hb';go_wp2_with fail;go_roundw
    case rel=>exact⟨m / 128,pre ++ [b],by go_num,by omega,by have:=HO2.out;rw [HLe.out] at this;simpa using this,HE2.out,HB2.out⟩
    case measure=>simp [intOf];omega
  ·have h1: ¬(128:Int)≤(m:Int):=by omega
   have HE2:Hid (pre ++ [UInt8.ofNat m] =oneB n):=LH (by rw [←HE.out,oneB_lt h]);have hbo:=byte_one' h;obtain⟨L,hL⟩ : ∃L,L=l ++ pre:=⟨_,rfl⟩;have hLl:L.length≤67108872:=by rw [hL,List.length_append];omega
   rw [←hL] at HOr⊢;have HLe:=LH hL;clear hL;generalize UInt8.ofNat m=b at hbo HE2;go_wp2_with ((at_builtin;go_loud (refine wpList_push tyU8 rfl _ _ rfl encB8 wr base (.slice Ao L.length co) L rfl HOr.out b (by go_simp) (by simp [encB8,hbo]) ?d1 ?d2 ?d3 ?d4)))
   case d1=>omega
   case d2=>unfold maxLen;omega
   case d3=>omega
   case d4=>
    intro v' w' ho' _ _ _ hb' _;have HO2:=LH ho';have HB2:=LH (HB.out.trans hb');clear ho' hb';go_wp2_with fail;exact bR (v:=v') (by simp only [results,Tryz.results266];go_simp) rfl ⟨_,rfl,by rw [←HE2.out,←List.append_assoc,←HLe.out];exact HO2.out,HB2.out⟩
def putB (L:List Int) :List UInt8:=L.flatMap fun x=>oneB x.toNat
theorem putB_nil:putB [] = []:=rfl
theorem putB_take {L:List Int} {q:Nat} (h:q<L.length) :putB (L.take (q+1)) =putB (L.take q) ++ oneB (L[q]).toNat:=by
 unfold putB;rw [List.take_succ_eq_append_getElem h,List.flatMap_append];simp
theorem putB_len: ∀{L:List Int},(∀x∈L,x≤9223372036854775807)→(putB L).length≤9*L.length:=by
 intro L
 induction L with
 |nil=>intro _;simp [putB]
 |cons x L ih=>
  intro h;have h1:=ih fun y hy=>h y (List.mem_cons_of_mem _ hy);have h2: (oneB x.toNat).length≤9:=oneB_le (by have:=h x (List.mem_cons_self ..);omega);have h3:putB (x :: L) =oneB x.toNat ++ putB L:=by simp [putB]
  rw [h3,List.length_append,List.length_cons];omega
theorem putB_pos {L:List Int} (h:0<L.length) :0< (putB L).length:=by
 match L,h with
 |x :: L,_=>
  have h3:putB (x :: L) =oneB x.toNat ++ putB L:=by simp [putB]
  have:=oneB_pos x.toNat;rw [h3,List.length_append];omega
theorem bytes_back {w:World} {b off cap:Nat} {l:List UInt8} {base:Nat} (ho:Own w base 5 encB8 (.slice (some ⟨b,off,none⟩) l.length cap) l) :
 ∀(j:Nat) (hj:j<l.length),w.cell? (Addr.add ⟨b,off,none⟩ j) =some (.int .u8 (l[j].toNat:Int)):=by
 intro j hj;obtain⟨b',off',he,_,hc⟩:=ho.sl.at_ hj
 injection he with he
 injection he with h1 h2
 subst h1 h2;have h3:=hc 0 (.int .u8 (l[j].toNat:Int)) rfl
 rw [show Addr.add ⟨b,off,none⟩ j= ⟨b,off+j,none⟩ by
  unfold Addr.add;split <;> simp_all]
 simpa using h3
theorem vary_Put (w:World) (base:Nat) (v:Value) (L:List Int) (ho:Own w base 3 encZ v L) (hi: ∀x∈L,i64 x) (hl:L.length≤65536) (h0:0<L.length) :
 Calls Tryz.prog 216 #[v] w fun e w'=>(∃t,e=.returned (.tuple #[.string t,.int .i64 (if L.all (fun x=>decide (0≤x)) =true then 0 else 2)])∧(L.all (fun x=>decide (0≤x)) =true→t= ⟨(putB L).toArray⟩))∧Below w.heap.size w w':=by
 obtain⟨A,c,rfl,_⟩:=ho.form;have HO:=LH (ho.base_le (Nat.zero_le _));have HI:=LH hi;have HP:=LH (putB_pos h0);clear ho hi
 go_enter Tryz.func216,Tryz.ntmps216
 go_wp2_with fail
 go_loopw [4,9] (fun u j wr=>∃q:Nat,q≤L.length∧j=.int .i64 q∧Own wr w.heap.size 5 encB8 u (putB (L.take q))∧(∀x∈L.take q,0≤x)∧Below w.heap.size w wr) (fun _ j _=>L.length - (intOf j).toNat)
 case atStart=>exact⟨0,Nat.zero_le _,rfl,Own.nil _ _ _ _,by simp,Below.refl _ _⟩
 case round=>
  obtain⟨q,hq,rfl,ho,hp,hB⟩:=hrel;have HB:=LH hB;have HR:=LH (HO.out.below hB);have HU:=LH ho;have HPq:=LH hp;have sz:=hB.size;clear ho hp hB;by_cases hlt:q<L.length
  ·have hqi: (q:Int) < (L.length:Int):=by omega
   obtain⟨b,off,rfl,hb,hc⟩:=HR.out.sl.at_ hlt;have d0:=hc 0 (.int .i64 L[q]) rfl;simp only [Nat.mul_one,Nat.add_zero] at d0;have hx1:=HI.out _ (List.getElem_mem hlt);by_cases hx:L[q] <0
   ·have hall:L.all (fun x=>decide (0≤x)) =false:=by
     rw [List.all_eq_false];exact⟨L[q],List.getElem_mem hlt,by simpa using hx⟩
    clear hc;generalize L[q] =x at*;go_wp2_with fail
    all_goals exact bR (v:=.tuple #[.string ⟨#[]⟩,.int .i64 2]) (by simp only [results,Tryz.results216];go_simp) rfl ⟨⟨_,rfl⟩,HB.out⟩
   ·have HTk:=LH (putB_take hlt)
    have HPn:Hid (∀x∈L.take (q+1),0≤x):=LH (by
     rw [List.take_succ_eq_append_getElem hlt];intro x hx';rcases List.mem_append.1 hx' with h|h
     ·exact HPq.out x h
     ·simp only [List.mem_singleton] at h;subst h;omega)
    obtain⟨n,hn⟩ : ∃n:Nat,L[q] = (n:Int):=⟨L[q].toNat,by omega⟩;have hn9:n≤9223372036854775807:=by have:=hx1.2;omega
    have hn0:decide ((n:Int) <0) =false:=by simp
    rw [hn] at d0 HTk
    have hlq: (putB (L.take q)).length≤67108864:=by
     have h1:=putB_len (L:=L.take q) fun y hy=>(HI.out y (List.mem_of_mem_take hy)).2;have h2: (L.take q).length≤65536:=by rw [List.length_take];omega
     omega
    clear hc hx hx1 hn;go_wp2_with fail;refine(vary_one wr w.heap.size _ (putB (L.take q)) n HU.out sz hlq hn9).mono ?_;rintro e w1 ⟨v1,rfl,ho1,hb1⟩;have HO1:=LH ho1;have HB1:=LH (HB.out.trans hb1);clear ho1 hb1;go_wp2_with fail;go_roundw
    case rel=>exact⟨q+1,by omega,by go_num,by rw [HTk.out];exact HO1.out,HPn.out,HB1.out⟩
    case measure=>simp [intOf];omega
  ·obtain rfl:q=L.length:=by omega
   rw [List.take_length] at HU HPq;have hqi:decide ((L.length:Int) < (L.length:Int)) =false:=by simp
   have hall:L.all (fun x=>decide (0≤x)) =true:=by
    rw [List.all_eq_true];intro x hx
    simpa using HPq.out x hx
   obtain⟨bb,oo,cc,rfl,_⟩:=own_at0 HU.out HP.out;have hcv:=run_convert_bytes_back (P:=Tryz.prog) wr 28 9 5 ⟨bb,oo,none⟩ cc (putB L) Tryz.underlying28 Tryz.underlying5 Tryz.underlying9 (bytes_back HU.out);generalize hG:putB L=G at HU hcv⊢;have HG:=LH hG;clear hG;go_wp2_with fail
   all_goals exact bR (v:=.tuple #[.string ⟨G.toArray⟩,.int .i64 0]) (by simp only [results,Tryz.results216];go_simp) rfl ⟨by rw [HG.out],HB.out⟩
def stepD (L:List Int) :List Int:=List.zipWith (fun x p=>x - p) L (0 :: L)
theorem stepD_len (L:List Int) : (stepD L).length=L.length:=by simp [stepD]
theorem stepD_at (L:List Int) {q:Nat} (h:q<L.length) {p:Int} (hp: (0 :: L)[q]? =some p) : (stepD L)[q]? =some (L[q] - p):=by
 unfold stepD;rw [List.getElem?_zipWith,hp,List.getElem?_eq_getElem h]
def risesB (L:List Int) :List UInt8:=oneB L.length ++ putB (stepD L)
def risesOk (L:List Int) :Bool:=(stepD L).all fun d=>decide (0<d)
theorem putB_step {D:List Int} {q:Nat} {d:Int} (h:D[q]? =some d) :putB (D.take (q+1)) =putB (D.take q) ++ oneB d.toNat:=by
 obtain⟨hq,rfl⟩:=List.getElem?_eq_some_iff.1 h;exact putB_take hq
theorem vary_Rises (w:World) (base:Nat) (v:Value) (L:List Int) (ho:Own w base 3 encZ v L) (hi: ∀x∈L,i64 x) (hl:L.length≤1000000) (hr:risesOk L=true) :
 Calls Tryz.prog 217 #[v] w fun e w'=>e=.returned (.tuple #[.string ⟨(risesB L).toArray⟩,.int .i64 0])∧Below w.heap.size w w':=by
 obtain⟨A,c,rfl,_⟩:=ho.form;have HO:=LH (ho.base_le (Nat.zero_le _));have HI:=LH hi
 have HD:=LH (fun q (hq:q<L.length) (d:Int) (hd: (stepD L)[q]? =some d)=>by
  have:=List.all_eq_true.1 hr d (List.mem_of_getElem? hd)
  simpa using this)
 clear ho hi hr
 go_enter Tryz.func217,Tryz.ntmps217
 go_wp2_with fail;refine(vary_one w w.heap.size _ [] L.length (Own.nil _ _ _ _) (Nat.le_refl _) (by simp) (by omega)).mono ?_;rintro e w1 ⟨v1,rfl,ho1,hb1⟩;have HU1:=LH ho1;have HB1:=LH hb1;clear ho1 hb1;go_wp2_with fail
 go_loopw [4,5,13] (fun u pv j wr=>∃(q:Nat) (p:Int),j=.int .i64 q∧pv=.int .i64 p∧q≤L.length∧(0 :: L)[q]? =some p∧0≤p∧(∀d∈(stepD L).take q,d≤9223372036854775807)∧Own wr w.heap.size 5 encB8 u (oneB L.length ++ putB ((stepD L).take q))∧Below w.heap.size w wr) (fun _ _ j _=>L.length - (intOf j).toNat)
 case atStart=>exact⟨0,0,rfl,rfl,Nat.zero_le _,rfl,Int.le_refl _,by simp,by simpa [putB] using HU1.out,HB1.out⟩
 case round=>
  obtain⟨q,p,rfl,rfl,hq,hp,hp0,hd,ho,hB⟩:=hrel;have HB:=LH hB;have HR:=LH (HO.out.below hB);have HU:=LH ho;have HP:=LH hp;have HDl:=LH hd;have sz:=hB.size;clear hp hd ho hB;by_cases hlt:q<L.length
  ·have hqi: (q:Int) < (L.length:Int):=by omega
   have HS:=LH (stepD_at L hlt HP.out);have hpos:=HD.out q hlt _ HS.out;have hx1:=(HI.out _ (List.getElem_mem hlt)).2;have HN:Hid ((0 :: L)[q+1]? =some L[q]):=LH (by simp [List.getElem?_eq_getElem hlt]);obtain⟨b,off,rfl,hb,hc⟩:=HR.out.sl.at_ hlt;have d0:=hc 0 (.int .i64 L[q]) rfl;simp only [Nat.mul_one,Nat.add_zero] at d0;generalize L[q] =x at HS hpos hx1 HN d0;obtain⟨n,hn⟩ : ∃n:Nat,x - p= (n:Int):=⟨(x - p).toNat,by omega⟩;have hle: ¬x≤p:=by omega
   have hn9:n≤9223372036854775807:=by omega
   have HT:=LH (putB_step HS.out);rw [hn] at HT
   have hlq: (oneB L.length ++ putB ((stepD L).take q)).length≤67108864:=by
    have h1:=putB_len HDl.out;have h2: ((stepD L).take q).length≤1000000:=by rw [List.length_take];omega
    have h3:=oneB_le (n:=L.length) (by omega);rw [List.length_append];omega
   have HD2:Hid (∀d∈(stepD L).take (q+1),d≤9223372036854775807):=LH (by
    obtain⟨h1,h2⟩:=List.getElem?_eq_some_iff.1 HS.out;rw [List.take_succ_eq_append_getElem h1];intro d hd;rcases List.mem_append.1 hd with h|h
    ·exact HDl.out d h
    ·simp only [List.mem_singleton] at h;rw [h,h2];omega)
   have hx0:0≤x:=by omega
   clear hc hpos HS;go_wp2_with fail;refine(vary_one wr w.heap.size _ _ n HU.out sz hlq hn9).mono ?_;rintro e w2 ⟨v2,rfl,ho2,hb2⟩;have HU2:=LH ho2;have HB2:=LH (HB.out.trans hb2);clear ho2 hb2;go_wp2_with fail;go_roundw
   case rel=>exact⟨q+1,x,by go_num,rfl,by omega,HN.out,hx0,HD2.out,by rw [HT.out,←List.append_assoc];exact HU2.out,HB2.out⟩
   case measure=>simp [intOf];omega
  ·obtain rfl:q=L.length:=by omega
   rw [show (stepD L).take L.length=stepD L by rw [←stepD_len L,List.take_length]] at HU;have hqi:decide ((L.length:Int) < (L.length:Int)) =false:=by simp
   have hGp:0< (oneB L.length ++ putB (stepD L)).length:=by
    have:=oneB_pos L.length;rw [List.length_append];omega
   obtain⟨bb,oo,cc,rfl,_⟩:=own_at0 HU.out hGp;have hcv:=run_convert_bytes_back (P:=Tryz.prog) wr 28 9 5 ⟨bb,oo,none⟩ cc (oneB L.length ++ putB (stepD L)) Tryz.underlying28 Tryz.underlying5 Tryz.underlying9 (bytes_back HU.out);generalize hG:oneB L.length ++ putB (stepD L) =G at HU hcv hGp⊢;have HG:=LH hG;clear hG;go_wp2_with fail
   all_goals exact bR (v:=.tuple #[.string ⟨G.toArray⟩,.int .i64 0]) (by simp only [results,Tryz.results217];go_simp) rfl ⟨by unfold risesB;rw [HG.out],HB.out⟩
def getF (a acc:Nat) :List UInt8→Nat×Nat×Int
 | []=>if a=9 then (0,0,10) else (0,0,9)
 |b :: t=>if a=9 then (0,0,10) else if b.toNat<128 then (if 0<a∧b.toNat=0 then (0,0,10) else (acc+b.toNat*128^a,a+1,0)) else getF (a+1) (acc+ (b.toNat - 128) *128^a) t
def getB (s:List UInt8) :Nat×Nat×Int:=getF 0 0 s
theorem getF_nine (acc:Nat) (s:List UInt8) :getF 9 acc s= (0,0,10):=by cases s <;> simp [getF]
theorem getF_end {a:Nat} (h:a<9) (acc:Nat) :getF a acc [] = (0,0,9):=by simp only [getF];rw [if_neg (by omega)]
theorem getF_last {a acc:Nat} {b:UInt8} {t:List UInt8} (h:a<9) (hb:b.toNat<128) (h0: ¬(0<a∧b.toNat=0)) :getF a acc (b :: t) = (acc+b.toNat*128^a,a+1,0):=by
 simp only [getF];rw [if_neg (by omega),if_pos hb,if_neg h0]
theorem getF_zero {a acc:Nat} {b:UInt8} {t:List UInt8} (h:a<9) (hb:b.toNat<128) (h0:0<a∧b.toNat=0) :getF a acc (b :: t) = (0,0,10):=by
 simp only [getF];rw [if_neg (by omega),if_pos hb,if_pos h0]
theorem getF_more {a acc:Nat} {b:UInt8} {t:List UInt8} (h:a<9) (hb: ¬b.toNat<128) :getF a acc (b :: t) =getF (a+1) (acc+ (b.toNat - 128) *128^a) t:=by
 rw [getF,if_neg (by omega),if_neg hb]
theorem getF_bounds: ∀(s:List UInt8) (a acc:Nat),a≤9→acc<128^a→
 (getF a acc s).1<128^9∧((getF a acc s).2.2≠0→(getF a acc s).1=0∧(getF a acc s).2.1=0)∧(getF a acc s).2.1≤a+s.length∧((getF a acc s).2.2=0→a< (getF a acc s).2.1)∧((getF a acc s).2.2=0∨(getF a acc s).2.2=9∨(getF a acc s).2.2=10)∧(getF a acc s).2.1≤9:=by
 intro s
 induction s with
 |nil=>
  intro a acc ha hacc;simp only [getF]
  split <;> refine⟨by decide,?_,?_,?_,?_,?_⟩ <;> simp
 |cons b t ih=>
  intro a acc ha hacc;have hb:=b.toNat_lt;by_cases h9:a=9
  ·subst h9;rw [getF_nine];refine⟨by decide,?_,?_,?_,?_,?_⟩ <;> simp
  have ha9:a<9:=by omega
  have hp:128^ (a+1) =128^a*128:=Nat.pow_succ ..;have hle:128^ (a+1)≤128^9:=Nat.pow_le_pow_right (by omega) (by omega);by_cases h1:b.toNat<128
  ·by_cases h0:0<a∧b.toNat=0
   ·rw [getF_zero ha9 h1 h0];refine⟨by decide,?_,?_,?_,?_,?_⟩ <;> simp
   ·rw [getF_last ha9 h1 h0]
    have h2:b.toNat*128^a≤127*128^a:=Nat.mul_le_mul_right _ (by omega);refine⟨?_,?_,?_,?_,?_,?_⟩
    ·show acc+b.toNat*128^a<128^9
     omega
    ·simp
    ·simp only [List.length_cons];omega
    ·simp
    ·simp
    ·show a+1≤9
     omega
  ·rw [getF_more ha9 h1]
   have h2: (b.toNat - 128) *128^a≤127*128^a:=Nat.mul_le_mul_right _ (by omega);obtain⟨i1,i2,i3,i4,i5,i6⟩:=ih (a+1) (acc+ (b.toNat - 128) *128^a) (by omega) (by omega);refine⟨i1,i2,?_,fun h=> ?_,i5,i6⟩
   ·simp only [List.length_cons];omega
   ·have:=i4 h;omega
theorem getB_bounds (s:List UInt8) : (getB s).1≤9223372036854775807∧((getB s).2.2≠0→(getB s).1=0∧(getB s).2.1=0)∧(getB s).2.1≤s.length∧((getB s).2.2=0→0< (getB s).2.1)∧((getB s).2.2=0∨(getB s).2.2=9∨(getB s).2.2=10)∧(getB s).2.1≤9:=by
 obtain⟨h1,h2,h3,h4,h5,h6⟩:=getF_bounds s 0 0 (by omega) (by decide);have e: (128:Nat) ^9=9223372036854775808:=by decide
 rw [e] at h1;unfold getB;exact⟨by omega,h2,by omega,h4,h5,h6⟩
theorem getF_one: ∀(k n a acc:Nat) (t:List UInt8),n<128^k→a+k≤9→(0<a→0<n)→1≤k→getF a acc (oneB n ++ t) = (acc+n*128^a,a+ (oneB n).length,0):=by
 intro k
 induction k with
 |zero=>intro n a acc t _ _ _ h;omega
 |succ k ih=>
  intro n a acc t hn ha h0 _;by_cases h:128≤n
  ·rw [oneB_ge h,List.cons_append]
   have hb: (UInt8.ofNat (n % 128+128)).toNat=n % 128+128:=by
    rw [UInt8.toNat_ofNat'];omega
   rw [getF_more (by omega) (by rw [hb];omega),hb]
   have hk:1≤k:=by
    rcases Nat.eq_zero_or_pos k with rfl|hk
    ·simp at hn;omega
    ·exact hk
   have hp:128^ (k+1) =128^k*128:=Nat.pow_succ ..;rw [ih (n / 128) (a+1) _ t (by rw [hp] at hn;omega) (by omega) (fun _=>by omega) hk];have hp2:128^ (a+1) =128^a*128:=Nat.pow_succ ..;refine Prod.ext ?_ (Prod.ext ?_ rfl)
   ·show acc+ (n % 128+128 - 128) *128^a+n / 128*128^ (a+1) =acc+n*128^a
    rw [hp2,Nat.add_sub_cancel,←Nat.mul_assoc,Nat.mul_right_comm,Nat.add_assoc,←Nat.add_mul]
    congr 2
    omega
   ·show a+1+ (oneB (n / 128)).length=a+ (UInt8.ofNat (n % 128+128) :: oneB (n / 128)).length
    simp only [List.length_cons];omega
  ·rw [oneB_lt h]
   have hb: (UInt8.ofNat n).toNat=n:=by rw [UInt8.toNat_ofNat'];omega
   show getF a acc (UInt8.ofNat n :: t) =_
   rw [getF_last (by omega) (by rw [hb];omega) (by rw [hb];omega),hb]
   rfl
theorem getB_one {n:Nat} (hn:n≤9223372036854775807) (t:List UInt8) :getB (oneB n ++ t) = (n,(oneB n).length,0):=by
 unfold getB
 rw [getF_one 9 n 0 0 t (by have: (128:Nat) ^9=9223372036854775808:=by decide
                            omega) (by omega) (by omega) (by omega)]
 simp
def fallF (s:List UInt8) :Nat→Nat→Nat→List Int→List Int×Nat×Int
 |0,_,a,out=>(out,a,0)
 |m+1,last,a,out=>
  let g:=getB (s.drop a)
  if g.2.2≠0 then ([],0,g.2.2) else if g.1=0∨9223372036854775807 - last<g.1 then ([],0,10) else fallF s m (last+g.1) (a+g.2.1) (out ++ [((last+g.1:Nat) :Int)])
def fallB (s:List UInt8) (most:Int) :List Int×Nat×Int:=
 let g:=getB s
 if g.2.2≠0 then ([],0,g.2.2) else if most< (g.1:Int) then ([],0,13) else fallF s g.1 0 g.2.1 []
theorem fallF_bounds (s:List UInt8) : ∀(m last a:Nat) (out:List Int),a≤s.length→(∀x∈out,1≤x∧x≤9223372036854775807)→last≤9223372036854775807→
 (fallF s m last a out).2.1≤s.length∧(∀x∈(fallF s m last a out).1,1≤x∧x≤9223372036854775807)∧((fallF s m last a out).2.2≠0→(fallF s m last a out).1= []∧(fallF s m last a out).2.1=0)∧(fallF s m last a out).1.length≤out.length+m:=by
 intro m
 induction m with
 |zero=>intro last a out ha ho _;simp only [fallF];exact⟨ha,ho,by simp,by simp⟩
 |succ m ih=>
  intro last a out ha ho hl;obtain⟨b1,b2,b3,b4,b5,b6⟩:=getB_bounds (s.drop a);simp only [fallF]
  split
  ·exact⟨by simp,by simp,by simp,by simp⟩
  ·split
   ·exact⟨by simp,by simp,by simp,by simp⟩
   ·rename_i h1 h2
    simp only [List.length_drop] at b3
    obtain⟨i1,i2,i3,i4⟩:=ih (last+ (getB (s.drop a)).1) (a+ (getB (s.drop a)).2.1) (out ++ [((last+ (getB (s.drop a)).1:Nat) :Int)]) (by omega) (fun x hx=>by
     rcases List.mem_append.1 hx with hx|hx
     ·exact ho x hx
     ·simp only [List.mem_singleton] at hx;subst hx;omega) (by omega)
    refine⟨i1,i2,i3,?_⟩;simp only [List.length_append,List.length_cons,List.length_nil] at i4;omega
theorem fallB_bounds (s:List UInt8) (most:Int) : (fallB s most).2.1≤s.length∧(∀x∈(fallB s most).1,1≤x∧x≤9223372036854775807)∧((fallB s most).2.2≠0→(fallB s most).1= []∧(fallB s most).2.1=0)∧((fallB s most).1.length:Int)≤max most 0:=by
 obtain⟨b1,b2,b3,b4,b5,b6⟩:=getB_bounds s;unfold fallB;simp only
 split
 ·exact⟨by simp,by simp,by simp,by simp;omega⟩
 ·split
  ·exact⟨by simp,by simp,by simp,by simp;omega⟩
  ·obtain⟨i1,i2,i3,i4⟩:=fallF_bounds s (getB s).1 0 (getB s).2.1 [] b3 (by simp) (by omega)
   refine⟨i1,i2,i3,?_⟩;simp only [List.length_nil] at i4;omega
def sum1 (s:Nat×Nat) (b:UInt8) :Nat×Nat:=((s.1+b.toNat) % 65521,(s.2+ (s.1+b.toNat)) % 65521)
def sumT (s:Nat×Nat) (l:List UInt8) :Nat×Nat:=l.foldl sum1 s
def sumV (s:Nat×Nat) :Value:=.agg #[.int .i64 s.1,.int .i64 s.2]
theorem sumT_app (s) (l m:List UInt8) :sumT s (l ++ m) =sumT (sumT s l) m:=by simp [sumT,List.foldl_append]
theorem sum1_lt (s) (b:UInt8) : (sum1 s b).1<65521∧(sum1 s b).2<65521:=⟨Nat.mod_lt _ (by decide),Nat.mod_lt _ (by decide)⟩
theorem sumT_lt {s:Nat×Nat} (h:s.1<65521∧s.2<65521) : ∀l:List UInt8,(sumT s l).1<65521∧(sumT s l).2<65521:=by
 intro l
 induction l generalizing s with
 |nil=>exact h
 |cons b l ih=>exact ih (sum1_lt s b)
theorem seal_Begin (w:World) :Calls Tryz.prog 267 #[] w fun e w'=>e=.returned (sumV (1,0))∧Below w.heap.size w w':=by
 go_enter Tryz.func267,Tryz.ntmps267
 go_wp2_with fail;exact bR (v:=.agg #[.int .i64 1,.int .i64 0]) (by simp only [results,Tryz.results267];go_simp) rfl ⟨rfl,bE⟩
theorem back4 (W:World) (a b c d:UInt8) (n:Nat) (hn:n=W.heap.size) :
 (convert 28 9 (.slice (some ⟨n,0,none⟩) 4 4)).run Tryz.prog (W.alloc (.cells #[.int .u8 (a.toNat:Int),.int .u8 (b.toNat:Int),.int .u8 (c.toNat:Int),.int .u8 (d.toNat:Int)] 5)) =.ok (.string ⟨[a,b,c,d].toArray⟩) (W.alloc (.cells #[.int .u8 (a.toNat:Int),.int .u8 (b.toNat:Int),.int .u8 (c.toNat:Int),.int .u8 (d.toNat:Int)] 5)):=by
 subst hn;refine run_convert_bytes_back (P:=Tryz.prog) _ 28 9 5 ⟨W.heap.size,0,none⟩ 4 [a,b,c,d] Tryz.underlying28 Tryz.underlying5 Tryz.underlying9 ?_;intro j hj;rw [show Addr.add ⟨W.heap.size,0,none⟩ j= ⟨W.heap.size,j,none⟩ by unfold Addr.add;split <;> simp_all];rw [World.cell?_alloc_mark];simp only [List.length_cons,List.length_nil] at hj
 match j,hj with
 |0,_=>rfl
 |1,_=>rfl
 |2,_=>rfl
 |3,_=>rfl
def bytesL (s:Nat×Nat) :List UInt8:= [UInt8.ofNat (s.2 / 256),UInt8.ofNat s.2,UInt8.ofNat (s.1 / 256),UInt8.ofNat s.1]
theorem seal_Bytes (w:World) (s:Nat×Nat) (h:s.1<65521∧s.2<65521) :Calls Tryz.prog 221 #[sumV s] w fun e w'=>e=.returned (.string ⟨(bytesL s).toArray⟩)∧Below w.heap.size w w':=by
 unfold sumV;have h1: (s.2:Int) / 256= ((UInt8.ofNat (s.2 / 256)).toNat:Int):=by rw [UInt8.toNat_ofNat'];omega
 have h2: (s.2:Int) % 256= ((UInt8.ofNat s.2).toNat:Int):=by rw [UInt8.toNat_ofNat'];omega
 have h3: (s.1:Int) / 256= ((UInt8.ofNat (s.1 / 256)).toNat:Int):=by rw [UInt8.toNat_ofNat'];omega
 have h4: (s.1:Int) % 256= ((UInt8.ofNat s.1).toNat:Int):=by rw [UInt8.toNat_ofNat'];omega
 unfold bytesL;generalize UInt8.ofNat (s.2 / 256) =a at h1⊢;generalize UInt8.ofNat s.2=b at h2⊢;generalize UInt8.ofNat (s.1 / 256) =c at h3⊢;generalize UInt8.ofNat s.1=d at h4⊢;have hcv:=back4 (w.alloc (.cells #[.int .i64 s.1,.int .i64 s.2] 279)) a b c d (w.heap.size+1) (by simp);have HB:Hid (Below w.heap.size w ((w.alloc (.cells #[.int .i64 s.1,.int .i64 s.2] 279)).alloc (.cells #[.int .u8 (a.toNat:Int),.int .u8 (b.toNat:Int),.int .u8 (c.toNat:Int),.int .u8 (d.toNat:Int)] 5))):=LH bE;have h5:=h.1;have h6:=h.2;clear h
 go_enter Tryz.func221,Tryz.ntmps221
 go_wp2_with fail;exact bR (v:=.string ⟨[a,b,c,d].toArray⟩) (by simp only [results,Tryz.results221];go_simp) rfl ⟨rfl,HB.out⟩
def SealAt (W:World) (b lo hi:Nat) :Prop:=W.heap[b]? =some (.cells #[.int .i64 lo,.int .i64 hi] 279 (0,0))
theorem SealAt.below {w w':World} {b lo hi:Nat} (h:SealAt w b lo hi) (hb:Below w.heap.size w w') :SealAt w' b lo hi:=bB h hb
theorem SealAt.set {w:World} {b lo hi q o:Nat} (h:SealAt w b lo hi) (hne:b≠q) (u:Value) :SealAt (w.setCell ⟨q,o,none⟩ u) b lo hi:=(Below.heap_setCell _ _ _ _ hne).trans h
theorem SealAt.put0 {w:World} {b lo hi:Nat} (h:SealAt w b lo hi) (x:Nat) :SealAt (w.setCell ⟨b,0,none⟩ (.int .i64 x)) b x hi:=zH (i:=0) h _
theorem SealAt.put1 {w:World} {b lo hi:Nat} (h:SealAt w b lo hi) (x:Nat) :SealAt (w.setCell ⟨b,1,none⟩ (.int .i64 x)) b lo x:=zH (i:=1) h _
theorem seal_step {A:Nat×Nat} {lo hi:Nat} (b:UInt8) (h1:lo % 65521=A.1) (h2:hi % 65521=A.2) : (lo+b.toNat) % 65521= (sum1 A b).1∧(hi+ (lo+b.toNat)) % 65521= (sum1 A b).2:=by
 unfold sum1;dsimp only;omega
theorem sumT_take {A:Nat×Nat} {l:List UInt8} {q:Nat} (h:q<l.length) :sumT A (l.take (q+1)) =sum1 (sumT A (l.take q)) l[q]:=by
 rw [List.take_succ_eq_append_getElem h,sumT_app]
 rfl
theorem text_at (W:World) (l:List UInt8) (q:Nat) (h:q<l.length) : (Instr.index 9 (.string ⟨l.toArray⟩) (.int .i64 q)).run Tryz.prog W=.ok (.int .u8 (l[q].toNat:Int)) W:=by
 have hq:0≤(q:Int)∧(q:Int) < ((ByteArray.mk l.toArray).size:Int):=⟨by omega,by show (q:Int) < (l.toArray.size:Int);simp;exact h⟩;rw [run_index_string W 9 ⟨l.toArray⟩ .i64 q Tryz.underlying9,dif_pos hq]
 rfl
def strSize:Value→Nat
 | .string b=>b.size
 |_=>0
theorem text_drop (l:List UInt8) (n:Nat) : (ByteArray.mk l.toArray).extract n l.length= ⟨(l.drop n).toArray⟩:=by
 apply ByteArray.ext
 simp [ByteArray.data_extract]
 exact List.take_of_length_le (by simp)
theorem SealAt.drew {w:World} {b lo hi:Nat} (h:SealAt w b lo hi) :SealAt w.drew b lo hi:=h
theorem SealAt.new (w:World) (lo hi:Nat) :SealAt (w.alloc (.cells #[.int .i64 lo,.int .i64 hi] 279)) w.heap.size lo hi:=heap_alloc_new w _
theorem SealAt.alloc {w:World} {b lo hi:Nat} (h:SealAt w b lo hi) (o:Obj) :SealAt (w.alloc o) b lo hi:=h.below ((Below.refl _ _).alloc (Nat.le_refl _) o)
theorem size_alloc1 (w:World) (o:Obj) : (w.alloc o).heap.size=w.heap.size+1:=by simp
theorem seal_More (w:World) (s:Nat×Nat) (l:List UInt8) (h:s.1<65521∧s.2<65521) (hl:l.length≤1000000000000) :
 Calls Tryz.prog 268 #[sumV s,.string ⟨l.toArray⟩] w fun e w'=>e=.returned (sumV (sumT s l))∧Below w.heap.size w w':=by
 unfold sumV;have HS:=LH h;clear h
 go_enter Tryz.func268,Tryz.ntmps268
 go_wp2_with fail
 go_loopw [1] (fun t wr=>∃(pre suf:List UInt8),t=.string ⟨suf.toArray⟩∧pre ++ suf=l∧SealAt wr w.heap.size (sumT s pre).1 (sumT s pre).2∧SealAt wr (w.heap.size+1) 0 0∧Below w.heap.size w wr) (fun t _=>strSize t)
 case atStart=>
  refine⟨[],l,rfl,rfl,(SealAt.new w s.1 s.2).alloc _,?_,bE⟩;have:=SealAt.new (w.alloc (.cells #[.int .i64 s.1,.int .i64 s.2] 279)) 0 0;rw [size_alloc1] at this;exact this
 case round=>
  obtain⟨pre,suf,rfl,he,hx,hy,hB⟩:=hrel;have HE:=LH he;have HX:=LH hx;have HY:=LH hy;have HB:=LH hB;have hsl:suf.length≤1000000000000:=by rw [←he,List.length_append] at hl;omega
  have HLt:=LH (sumT_lt HS.out pre);have sz:=hB.size;clear he hx hy hB;by_cases h0:0<suf.length
  ·have h1: (0:Int) < (suf.length:Int):=by omega
   obtain⟨n,hn⟩ : ∃n:Nat,n=min suf.length 5000:=⟨_,rfl⟩;have hmin:min (suf.length:Int) 5000= (n:Int):=by omega
   have hn1:1≤n∧n≤5000∧n≤suf.length:=by omega
   clear hn;go_wp2_with fail
   go_loopw [14] (fun j W=>∃q lo hi:Nat,j=.int .i64 q∧q≤n∧SealAt W w.heap.size lo hi∧lo≤65520+255*q∧hi≤65520+q*1400000∧lo % 65521= (sumT (sumT s pre) (suf.take q)).1∧hi % 65521= (sumT (sumT s pre) (suf.take q)).2∧SealAt W (w.heap.size+1) 0 0∧Below w.heap.size w W) (fun j _=>n - (intOf j).toNat)
   case atStart=>
    have hL:=HLt.out;exact⟨0,_,_,rfl,Nat.zero_le _,HX.out,by omega,by omega,Nat.mod_eq_of_lt hL.1,Nat.mod_eq_of_lt hL.2,HY.out,HB.out⟩
   case round=>
    obtain⟨q,lo,hi,rfl,hq,hx,hlo,hhi,hm1,hm2,hy,hB⟩:=hrel;have HM:=LH (And.intro hm1 hm2);have HY2:=LH hy;have HB2:=LH hB;have HX2:=LH hx;have cc:=bC hx;have cf:=bF hx;have zb:=lB hx;clear hm1 hm2 hy hB hx;by_cases hqn:q<n
    ·have hqi: (q:Int) < (n:Int):=by omega
     have hqs:q<suf.length:=by omega
     have hqsi: (q:Int) < (suf.length:Int):=by omega
     have HS1:=LH (sumT_take (A:=sumT s pre) hqs);have HS2:=LH (seal_step suf[q] HM.out.1 HM.out.2);have hbl: (suf[q]).toNat<256:=(suf[q]).toNat_lt;have hix:=fun W=>text_at W suf q hqs;generalize suf[q] =y at HS1 HS2 hbl hix;generalize y.toNat=b at HS2 hbl hix;obtain⟨lo2,hlo2⟩ : ∃lo2:Nat,lo2=lo+b:=⟨_,rfl⟩;rw [←hlo2] at HS2;have hw: (lo:Int) + (b:Int) = (lo2:Int):=by omega
     have HX3:=LH (HX2.out.put0 lo2).drew;have HY3:=LH (HY2.out.set (q:=w.heap.size) (o:=0) (by omega) (.int .i64 lo2)).drew;have HB3:=LH (Below.setCell (p:=⟨w.heap.size,0,none⟩) HB2.out (Nat.le_refl _) (.int .i64 lo2)).drew;have hlo3:lo2≤65520+255* (q+1):=by omega
     clear hlo2;go_wp2_with fail
     go_region
     generalize (wr.setCell ⟨w.heap.size,0,none⟩ (.int .i64 lo2)).drew=W3 at HX3 HY3 HB3⊢;have cc3:=bC HX3.out;have cf3:=bF HX3.out;have zb3:=lB HX3.out;clear cc cf zb hw;obtain⟨hi2,hhi2⟩ : ∃hi2:Nat,hi2=hi+lo2:=⟨_,rfl⟩;rw [←hhi2] at HS2;have HX4:=LH (HX3.out.put1 hi2);have HY4:=LH (HY3.out.set (q:=w.heap.size) (o:=1) (by omega) (.int .i64 hi2));have HB4:=LH (Below.setCell (p:=⟨w.heap.size,1,none⟩) HB3.out (Nat.le_refl _) (.int .i64 hi2));have hw2: (hi:Int) + (lo2:Int) = (hi2:Int):=by omega
     have hhi3:hi2≤65520+ (q+1) *1400000:=by omega
     clear hhi2;go_wp2_with fail;go_roundw
     case rel=>exact⟨q+1,lo2,hi2,by go_num,by omega,HX4.out,hlo3,hhi3,by rw [HS1.out];exact HS2.out.1,by rw [HS1.out];exact HS2.out.2,HY4.out,HB4.out⟩
     case measure=>simp [intOf];omega
    ·obtain rfl:q=n:=by omega
     have hqi:decide ((q:Int) < (q:Int)) =false:=by simp
     have HEX:Hid (pre ++ suf.take q ++ suf.drop q=l):=LH (by rw [List.append_assoc,List.take_append_drop];exact HE.out);have hm:sumT (sumT s pre) (suf.take q) =sumT s (pre ++ suf.take q):=(sumT_app _ _ _).symm;have HM2:=LH (And.intro (HM.out.1.trans (congrArg Prod.fst hm)) (HM.out.2.trans (congrArg Prod.snd hm)));generalize pre ++ suf.take q=pre2 at HEX HM2 hm;clear hm HM;have hloi: (lo:Int) % 65521= ((sumT s pre2).1:Int):=by have:=HM2.out.1;omega
     have hhii: (hi:Int) % 65521= ((sumT s pre2).2:Int):=by have:=HM2.out.2;omega
     generalize hA: (sumT s pre2).1=A1 at hloi;generalize hA2: (sumT s pre2).2=A2 at hhii;have HA:=LH (And.intro hA hA2);clear hA hA2;have HX3:=LH ((HX2.out.put0 A1).put1 A2);have HY3:=LH ((HY2.out.set (q:=w.heap.size) (o:=0) (by omega) (.int .i64 A1)).set (q:=w.heap.size) (o:=1) (by omega) (.int .i64 A2));have HB3:=LH (Below.setCell (p:=⟨w.heap.size,1,none⟩) (Below.setCell (p:=⟨w.heap.size,0,none⟩) HB2.out (Nat.le_refl _) (.int .i64 A1)) (Nat.le_refl _) (.int .i64 A2));have htd:=text_drop suf q;go_wp2_with fail;go_roundw
     case rel=>exact⟨pre2,suf.drop q,rfl,HEX.out,by rw [HA.out.1,HA.out.2];exact HX3.out,HY3.out,HB3.out⟩
     case measure=>
      show (List.drop q suf).toArray.size<suf.toArray.size
      simp
      omega
  ·obtain rfl:suf= []:=List.eq_nil_of_length_eq_zero (by omega)
   obtain rfl:pre=l:=by simpa using HE.out
   have cc:=bC HX.out;have cf:=bF HX.out;have zb:=lB HX.out;have cd:=bC HY.out;have cg:=bF HY.out;have zc:=lB HY.out;have HYe:=LH ((HY.out.put0 (sumT s pre).1).put1 (sumT s pre).2);have HBe:=LH (Below.setCell (p:=⟨w.heap.size+1,1,none⟩) (Below.setCell (p:=⟨w.heap.size+1,0,none⟩) HB.out (by simp) (.int .i64 (sumT s pre).1)) (by simp) (.int .i64 (sumT s pre).2));go_wp2_with fail;generalize ((wr.setCell ⟨w.heap.size+1,0,none⟩ (.int .i64 (sumT s pre).1)).setCell ⟨w.heap.size+1,1,none⟩ (.int .i64 (sumT s pre).2)) =W4 at HYe HBe⊢;have ce:=bC HYe.out;have cfe:=bF HYe.out;have ze:=lB HYe.out;exact bR (v:=.agg #[.int .i64 (sumT s pre).1,.int .i64 (sumT s pre).2]) (by simp only [results,Tryz.results268];go_simp) rfl ⟨rfl,HBe.out⟩
theorem cell_lt {W:World} {b o:Nat} {v:Value} (h:W.cell? ⟨b,o,none⟩ =some v) :b<W.heap.size:=by
 rcases Nat.lt_or_ge b W.heap.size with h'|h'
 ·exact h'
 ·simp [World.cell?,Array.getElem?_eq_none h'] at h
theorem p128 {a:Nat} (h:a≤8) :128^a≤72057594037927936∧1≤128^a:=by
 have h1:128^a≤128^8:=Nat.pow_le_pow_right (by decide) h;have h2: (128:Nat) ^8=72057594037927936:=by decide
 have h3:0<128^a:=Nat.pow_pos (by decide);omega
theorem p128_next {a:Nat} (h:a<8) :wrap64 (128* ((128^a:Nat) :Int)) = ((128^ (a+1) :Nat) :Int):=by
 have h1:=(p128 (a:=a) (by omega)).1;have h2:128^ (a+1) =128*128^a:=by rw [Nat.pow_succ];omega
 have h3:=(p128 (a:=a+1) (by omega)).1;unfold wrap64;omega
theorem p128_mul {a x:Nat} (h:a≤8) (hx:x≤127) :wrap64 ((x:Int) * ((128^a:Nat) :Int)) = ((x*128^a:Nat) :Int)∧x*128^a≤127*128^a:=by
 have h1:=p128 h;have h2:x*128^a≤127*128^a:=Nat.mul_le_mul_right _ hx;refine⟨?_,h2⟩;have e: (x:Int) * ((128^a:Nat) :Int) = ((x*128^a:Nat) :Int):=by norm_cast
 rw [e];unfold wrap64;omega
theorem p128_sum {a acc x:Nat} (h:a≤8) (hx:x≤127) (ha:acc<128^a) :wrap64 ((acc:Int) + ((x*128^a:Nat) :Int)) = ((acc+x*128^a:Nat) :Int)∧acc+x*128^a<128^ (a+1):=by
 have h1:=p128 h;have h2:=(p128_mul h hx).2;have h3:128^ (a+1) =128*128^a:=by rw [Nat.pow_succ];omega
 refine⟨?_,by omega⟩;unfold wrap64;omega
def GetPost (s:List UInt8) (w:World) (e:Ending) (w':World) :Prop:=e=.returned (.tuple #[.int .i64 (getB s).1,.int .i64 (getB s).2.1,.int .i64 (getB s).2.2])∧Below w.heap.size w w'
theorem ref22_Get (w:World) (s:List UInt8) (hs:s.length≤1000000000) :
 Calls Tryz.prog 128 #[.string ⟨s.toArray⟩] w (GetPost s w):=by
 unfold GetPost
 go_enter Tryz.func128,Tryz.ntmps128
 go_wp2_with fail
 go_loopw [5,6,7] (fun n p i wr=>∃(q acc:Nat),i=.int .i64 q∧q≤9∧q≤s.length∧n=.int .i64 acc∧acc<128^q∧(q<9→p=.int .i64 ((128^q:Nat) :Int))∧getF q acc (s.drop q) =getB s∧Below w.heap.size w wr) (fun _ _ i _=>9 - (intOf i).toNat)
 case atStart=>exact⟨0,0,rfl,by omega,by omega,rfl,by decide,fun _=>rfl,rfl,Below.refl _ _⟩
 case round=>
  obtain⟨q,acc,rfl,hq,hql,rfl,hacc,hp,hg,hB⟩:=hrel;have HB:=LH hB;have HG:=LH hg;clear hg hB;by_cases h9:q<9
  ·obtain rfl:=hp h9
   have h9i: (q:Int) <9:=by omega
   by_cases hl:q<s.length
   ·have hne: ((q:Int) == (s.length:Int)) =false:=by simp;omega
    have hix:=fun W=>text_at W s q hl;have hd:s.drop q=s[q] :: s.drop (q+1):=List.drop_eq_getElem_cons hl;rw [hd] at HG;have hbl: (s[q]).toNat<256:=(s[q]).toNat_lt;clear hd;generalize s[q] =y at HG hbl hix;have HY:=LH (And.intro (getF_last (a:=q) (acc:=acc) (b:=y) (t:=s.drop (q+1)) h9) (And.intro (getF_zero (a:=q) (acc:=acc) (b:=y) (t:=s.drop (q+1)) h9) (getF_more (a:=q) (acc:=acc) (b:=y) (t:=s.drop (q+1)) h9)));generalize y.toNat=b at hbl hix HY;by_cases hb:b<128
    ·have hbi: (b:Int) <128:=by omega
     by_cases h0:0<q∧b=0
     ·have HE:=LH ((HY.out.2.1 hb h0).symm.trans HG.out)
      obtain⟨h1,rfl⟩:=h0;have h1i: (0:Int) < (q:Int):=by omega
      clear HY HG;go_wp2_with fail;exact bR (v:=.tuple #[.int .i64 0,.int .i64 0,.int .i64 10]) (by simp only [results,Tryz.results128];go_simp) rfl ⟨by rw [←HE.out];rfl,HB.out⟩
     ·have HE:=LH ((HY.out.1 hb h0).symm.trans HG.out)
      have hm:=p128_mul (a:=q) (x:=b) (by omega) (by omega);have ha:=(p128_sum (a:=q) (acc:=acc) (x:=b) (by omega) (by omega) hacc).1;clear HY HG;generalize 128^q=p at hacc hm ha HE;obtain⟨hm,hm2⟩:=hm;generalize b*p=bp at hm hm2 ha HE;rcases Nat.eq_zero_or_pos q with h1|h1
      ·have h2:decide (0<q) =false:=by simp;omega
       have H1:=LH h1;clear h0 h1;go_wp2_with fail;exact bR (v:=.tuple #[.int .i64 ((acc:Int) + (bp:Int)),.int .i64 ((q:Int) +1),.int .i64 0]) (by simp only [results,Tryz.results128];go_simp) rfl ⟨by rw [←HE.out];simp,HB.out⟩
      ·have hb0:b≠0:=fun e=>h0 ⟨h1,e⟩
       have h2: ((b:Int) == 0) =false:=by simp;omega
       clear h0;go_wp2_with fail;exact bR (v:=.tuple #[.int .i64 ((acc:Int) + (bp:Int)),.int .i64 ((q:Int) +1),.int .i64 0]) (by simp only [results,Tryz.results128];go_simp) rfl ⟨by rw [←HE.out];simp,HB.out⟩
    ·have hbi: ¬(b:Int) <128:=by omega
     have HE:=LH ((HY.out.2.2 hb).symm.trans HG.out);obtain⟨x,hx⟩ : ∃x,b - 128=x:=⟨_,rfl⟩;rw [hx] at HE;have hx127:x≤127:=by omega
     have hxi: (b:Int) - 128= (x:Int):=by omega
     have hm:=p128_mul (a:=q) (x:=x) (by omega) hx127;have ha:=p128_sum (a:=q) (acc:=acc) (x:=x) (by omega) hx127 hacc;obtain⟨ha,ha2⟩:=ha;have HA:=LH ha2;clear HY HG hx ha2;by_cases h8:q<8
     ·have h8i: (q:Int) <8:=by omega
      have hn:=p128_next h8;obtain⟨pn,hpn⟩ : ∃z,z=128^ (q+1):=⟨_,rfl⟩;rw [←hpn] at hn HA;have HP:=LH hpn;clear hpn;generalize 128^q=p at hacc hm ha HE HA hn;obtain⟨hm,hm2⟩:=hm;generalize x*p=bp at hm hm2 ha HE HA;obtain⟨acc2,hacc2⟩ : ∃z,z=acc+bp:=⟨_,rfl⟩;rw [←hacc2] at ha HA HE;clear hacc2;go_wp2_with fail;go_roundw
      case rel=>exact⟨q+1,acc2,by go_num,by omega,by omega,by rw [ha],by rw [←HP.out];exact HA.out,fun _=>by rw [←HP.out,hn],HE.out,HB.out⟩
      case measure=>simp [intOf];omega
     ·have h8i: ¬(q:Int) <8:=by omega
      obtain⟨pn,hpn⟩ : ∃z,z=128^ (q+1):=⟨_,rfl⟩;rw [←hpn] at HA;have HP:=LH hpn;clear hpn;generalize 128^q=p at hacc hm ha HE HA;obtain⟨hm,hm2⟩:=hm;generalize x*p=bp at hm hm2 ha HE HA;obtain⟨acc2,hacc2⟩ : ∃z,z=acc+bp:=⟨_,rfl⟩;rw [←hacc2] at ha HA HE;clear hacc2;go_wp2_with fail;go_roundw
      case rel=>exact⟨q+1,acc2,by go_num,by omega,by omega,by rw [ha],by rw [←HP.out];exact HA.out,fun h=>absurd h (by omega),HE.out,HB.out⟩
      case measure=>simp [intOf];omega
   ·obtain rfl:q=s.length:=by omega
    have hne: ((s.length:Int) == (s.length:Int)) =true:=by simp
    have HE:Hid (getB s= (0,0,9)):=LH (by rw [←HG.out,List.drop_length];exact getF_end h9 acc);go_wp2_with fail;exact bR (v:=.tuple #[.int .i64 0,.int .i64 0,.int .i64 9]) (by simp only [results,Tryz.results128];go_simp) rfl ⟨by rw [HE.out];rfl,HB.out⟩
  ·obtain rfl:q=9:=by omega
   have HE:Hid (getB s= (0,0,10)):=LH (by rw [←HG.out];exact getF_nine acc _);go_wp2_with fail;exact bR (v:=.tuple #[.int .i64 0,.int .i64 0,.int .i64 10]) (by simp only [results,Tryz.results128];go_simp) rfl ⟨by rw [HE.out];rfl,HB.out⟩
def encT:Enc (List UInt8) 1:=⟨fun l=> [.string ⟨l.toArray⟩],fun _=>rfl,by intro x u hu;simp at hu;subst hu;rfl⟩
theorem flat_take {L:List (List UInt8)} {q:Nat} (h:q<L.length) : (L.take (q+1)).flatten= (L.take q).flatten ++ L[q]:=by
 rw [List.take_succ_eq_append_getElem h,List.flatten_append];simp
theorem seal_Of (w:World) (base:Nat) (v:Value) (L:List (List UInt8)) (ho:Own w base 9 encT v L) (hl: ∀l∈L,l.length≤1000000000000) (hn:L.length≤1000000) :
 Calls Tryz.prog 220 #[v] w fun e w'=>e=.returned (sumV (sumT (1,0) L.flatten))∧Below w.heap.size w w':=by
 obtain⟨A,c,rfl,_⟩:=ho.form;have HO:=LH (ho.base_le (Nat.zero_le _));have HLn:=LH hl;have HY0:=LH (SealAt.new w 0 0);have HB0:Hid (Below w.heap.size w (w.alloc (.cells #[.int .i64 (0:Nat),.int .i64 (0:Nat)] 279))):=LH bE;have HMo:=LH (fun W s l=>seal_More W s l);unfold sumV at HMo⊢;clear ho hl;generalize hG:sumT (1,0) L.flatten=G;have HG:=LH hG;clear hG
 go_enter Tryz.func220,Tryz.ntmps220
 go_wp2_with fail;refine(seal_Begin _).mono ?_;unfold sumV;rintro e w1 ⟨rfl,hb1⟩;have s1:=hb1.size;rw [size_alloc1] at s1;have HY1:=LH (HY0.out.below hb1);have HB1:=LH (HB0.out.trans (hb1.mono (by simp)));clear hb1;go_wp2_with fail
 go_loopw [9] (fun j wr=>∃q:Nat,j=.int .i64 q∧q≤L.length∧SealAt wr w1.heap.size (sumT (1,0) (L.take q).flatten).1 (sumT (1,0) (L.take q).flatten).2∧SealAt wr w.heap.size 0 0∧Below w.heap.size w wr) (fun j _=>L.length - (intOf j).toNat)
 case atStart=>
  refine⟨0,rfl,Nat.zero_le _,SealAt.new w1 1 0,HY1.out.alloc _,HB1.out.alloc (by omega) _⟩
 case round=>
  obtain⟨q,rfl,hq,hx,hy,hB⟩:=hrel;have HX:=LH hx;have HY:=LH hy;have HB:=LH hB;have HR:=LH (HO.out.below hB);have sz:=hB.size;have cc:=bC hx;have cf:=bF hx;have zb:=lB hx;clear hx hy hB;by_cases hlt:q<L.length
  ·have hqi: (q:Int) < (L.length:Int):=by omega
   obtain⟨b,off,rfl,hb,hc⟩:=HR.out.sl.at_ hlt;have d0:=hc 0 (.string ⟨(L[q]).toArray⟩) rfl;simp only [Nat.mul_one,Nat.add_zero] at d0;have HF:=LH (flat_take hlt);have HL:=LH (HLn.out _ (List.getElem_mem hlt));have HA:=LH (sumT_app (1,0) (L.take q).flatten L[q]);have HS:=LH (sumT_lt (s:=(1,0)) (by decide) (L.take q).flatten);generalize L[q] =l at d0 HF HL HA;rw [←HF.out] at HA;generalize sumT (1,0) (L.take q).flatten=S at HX HS HA cc;clear hc;go_wp2_with fail;refine(HMo.out _ S l HS.out HL.out).mono ?_;rintro e w2 ⟨rfl,hb2⟩;have HX2:=LH (HX.out.below hb2);have HY2:=LH (HY.out.below hb2);have HB2:=LH (HB.out.trans (hb2.mono sz));have cc2:=bC HX2.out;have cf2:=bF HX2.out;have zb2:=lB HX2.out;rw [←HA.out];clear hb2 cc cf zb HF;generalize hT:sumT (1,0) (L.take (q+1)).flatten=T;have HT:=LH hT;clear hT HA;have HX3:=LH ((HX2.out.put0 T.1).put1 T.2);have HY3:=LH ((HY2.out.set (q:=w1.heap.size) (o:=0) (by omega) (.int .i64 T.1)).set (q:=w1.heap.size) (o:=1) (by omega) (.int .i64 T.2));have HB3:=LH (Below.setCell (p:=⟨w1.heap.size,1,none⟩) (Below.setCell (p:=⟨w1.heap.size,0,none⟩) HB2.out (by simp;omega) (.int .i64 T.1)) (by simp;omega) (.int .i64 T.2));go_wp2_with fail;go_roundw
   case rel=>exact⟨q+1,by go_num,by omega,by rw [HT.out];exact HX3.out,HY3.out,HB3.out⟩
   case measure=>simp [intOf];omega
  ·obtain rfl:q=L.length:=by omega
   rw [List.take_length,HG.out] at HX cc;have hqi:decide ((L.length:Int) < (L.length:Int)) =false:=by simp
   have cd:=bC HY.out;have cg:=bF HY.out;have zc:=lB HY.out;have HYe:=LH ((HY.out.put0 G.1).put1 G.2);have HBe:=LH (Below.setCell (p:=⟨w.heap.size,1,none⟩) (Below.setCell (p:=⟨w.heap.size,0,none⟩) HB.out (by simp) (.int .i64 G.1)) (by simp) (.int .i64 G.2));go_wp2_with fail;generalize ((wr.setCell ⟨w.heap.size,0,none⟩ (.int .i64 G.1)).setCell ⟨w.heap.size,1,none⟩ (.int .i64 G.2)) =W4 at HYe HBe⊢;have ce:=bC HYe.out;have cfe:=bF HYe.out;have ze:=lB HYe.out;exact bR (v:=.agg #[.int .i64 G.1,.int .i64 G.2]) (by simp only [results,Tryz.results220];go_simp) rfl ⟨rfl,HBe.out⟩
def sealT (l:List UInt8) :List UInt8:=l ++ bytesL (sumT (1,0) l)
theorem sealT_len (l:List UInt8) : (sealT l).length=l.length+4:=by simp [sealT,bytesL]
theorem seal_Seal (w:World) (l:List UInt8) (hl:l.length≤8000000) :Calls Tryz.prog 218 #[.string ⟨l.toArray⟩] w fun e w'=>e=.returned (.string ⟨(sealT l).toArray⟩)∧Below w.heap.size w w':=by
 unfold sealT;have HO:Hid (Own (w.alloc (.cells #[.string ⟨l.toArray⟩] 9)) w.heap.size 9 encT (.slice (some ⟨w.heap.size,0,none⟩) 1 1) [l]):=LH (Own.lit w encT [l] 9 (Nat.le_refl _) (by simp [maxLen]));have HF:=LH (seal_Of _ _ _ _ HO.out (by simp;omega) (by simp));have HB0:Hid (Below w.heap.size w (w.alloc (.cells #[.string ⟨l.toArray⟩] 9))):=LH bE;have hfl: [l].flatten=l:=by simp
 rw [hfl] at HF;have HS:=LH (sumT_lt (s:=(1,0)) (by decide) l);generalize sumT (1,0) l=S at HF HS⊢;clear hfl HO
 go_enter Tryz.func218,Tryz.ntmps218
 go_wp2_with fail;refine HF.out.mono ?_;rintro e w1 ⟨rfl,hb1⟩;have HB1:=LH (HB0.out.trans (hb1.mono (by simp)));clear hb1;go_wp2_with fail;refine(seal_Bytes _ S HS.out).mono ?_;rintro e w2 ⟨rfl,hb2⟩;have HB2:=LH (HB1.out.trans (hb2.mono HB1.out.size));clear hb2;have hcat:=fun W=>run_string_add_lists (P:=Tryz.prog) W l (bytesL S) (by omega) (by simp [bytesL]);go_wp2_with fail;exact bR (v:=.string ⟨(l ++ bytesL S).toArray⟩) (by simp only [results,Tryz.results218];go_simp) rfl ⟨rfl,HB2.out⟩
def isCrew (i:Int) :Bool:=decide (0≤i∧i<48)
theorem isCrew_nat {i:Int} (h:isCrew i=true) : ∃n:Nat,i=n∧n<48:=by
 simp only [isCrew,decide_eq_true_eq] at h;obtain⟨n,rfl⟩:=Int.eq_ofNat_of_zero_le h.1;exact⟨n,rfl,by omega⟩
def hasN (s i:Nat) :Bool:=decide (s / 2^i % 2=1)
def hasC (s:Nat) (i:Int) :Bool:=isCrew i && hasN s i.toNat
def withC (s:Nat) (i:Int) :Nat:=if isCrew i=true then (if hasN s i.toNat=true then s else s+2^i.toNat) else s
def rightC (s:Nat) :Bool:=decide (s≤281474976710655)
theorem wrap_u64s {n:Int} (h0:0≤n) (h1:n<2^64) :IntKind.u64.wrap n=n:=by rw [IntKind.wrap_u64];omega
theorem pow_crew {i:Nat} (hi:i<48) :2^i≤140737488355328∧1≤2^i:=by
 have h1:2^i≤2^47:=Nat.pow_le_pow_right (by decide) (by omega);have h2:=Nat.two_pow_pos i;omega
theorem and_one (s i:Nat) (hs:s<2^64) : (bits BinOp.and IntKind.u64 ((s:Int) / 2^i) 1 == 1) =hasN s i:=by
 have e: ((s:Int) / 2^i) = ((s / 2^i:Nat) :Int):=by rw [Int.natCast_ediv];norm_cast
 have hl:s / 2^i<2^64:=Nat.lt_of_le_of_lt (Nat.div_le_self _ _) hs;have h:=(bits_nat .u64 64 (by decide) (fun n h0 h1=>wrap_u64s h0 h1) (s / 2^i) 1 hl (by decide)).1;rw [e];rw [show ((1:Int)) = ((1:Nat) :Int) from rfl,h,Nat.and_one_is_mod];unfold hasN;by_cases hc:s / 2^i % 2=1
 ·simp [hc]
 ·have:s / 2^i % 2=0:=by omega
  simp [this]
theorem or_two_pow_add {s i:Nat} (h:s.testBit i=false) :2^i+s=s ||| 2^i:=by
 apply Nat.eq_of_testBit_eq
 intro j;rw [Nat.testBit_or,Nat.testBit_two_pow];rcases Nat.lt_trichotomy j i with hj|rfl|hj
 ·rw [Nat.testBit_two_pow_add_gt hj];simp;omega
 ·rw [Nat.testBit_two_pow_add_eq,h];simp
 ·have e:2^i+s=2^i* (1+s / 2^i) +s % 2^i:=by
   rw [Nat.mul_add,Nat.mul_one];have:=Nat.div_add_mod s (2^i);omega
  have hd:s / 2^i % 2=0:=by
   rw [Nat.testBit_eq_decide_div_mod_eq] at h;simp at h
   omega
  have h1: (2^i+s).testBit j=s.testBit j:=by
   rw [Nat.testBit_eq_decide_div_mod_eq,Nat.testBit_eq_decide_div_mod_eq]
   congr 2
   obtain⟨k,rfl⟩ : ∃k,j=i+1+k:=⟨j - (i+1),by omega⟩
   have key: (2^i+s) / 2^ (i+1) =s / 2^ (i+1):=by
    rw [Nat.pow_succ,←Nat.div_div_eq_div_mul,←Nat.div_div_eq_div_mul,Nat.add_comm,Nat.add_div_right _ (Nat.two_pow_pos i)];omega
   rw [Nat.pow_add,←Nat.div_div_eq_div_mul,←Nat.div_div_eq_div_mul,key]
  rw [h1];have: ¬i=j:=by omega
  simp [this]
theorem or_pow (s i:Nat) (hs:s<2^64) (hi:i<48) :bits BinOp.or IntKind.u64 (s:Int) ((2^i:Nat) :Int) = ((if hasN s i=true then s else s+2^i:Nat) :Int):=by
 have hp:=pow_crew hi;rw [(bits_nat .u64 64 (by decide) (fun n h0 h1=>wrap_u64s h0 h1) s (2^i) hs (by omega)).2]
 congr 1
 have ht:hasN s i=s.testBit i:=by
  unfold hasN;rw [Nat.testBit_eq_decide_div_mod_eq]
 rw [ht]
 apply Nat.eq_of_testBit_eq
 intro j;rw [Nat.testBit_or,Nat.testBit_two_pow];by_cases hb:s.testBit i=true
 ·rw [if_pos hb]
  by_cases hij:i=j
  ·subst hij;simp [hb]
  ·simp [hij]
 ·rw [if_neg hb]
  have hb':s.testBit i=false:=by simpa using hb
  rw [Nat.add_comm,or_two_pow_add hb',Nat.testBit_or,Nat.testBit_two_pow]
theorem crew_is (i:Int) (w:World) :Calls Tryz.prog 133 #[.int .i64 i] w fun e w'=>e=.returned (.bool (isCrew i))∧Below w.heap.size w w':=by
 unfold isCrew;by_cases h:0≤i
 ·have h1:decide (0≤i) =true:=by simpa using h
  go_enter Tryz.func133,Tryz.ntmps133
  go_wp2_with fail;go_ret;exact⟨by simp [h],Below.refl _ _⟩
 ·have h1:decide (0≤i) =false:=by simpa using h
  go_enter Tryz.func133,Tryz.ntmps133
  go_wp2_with fail;go_ret;exact⟨by simp [h],Below.refl _ _⟩
theorem crew_one (i:Int) (w:World) :Calls Tryz.prog 70 #[.int .i64 i] w fun e w'=>e=.returned (.int .u64 ((if isCrew i=true then 2^i.toNat else 0:Nat) :Int))∧Below w.heap.size w w':=by
 have HC:=LH (fun W=>crew_is i W)
 cases hc:isCrew i
 ·rw [hc] at HC
  clear hc
  go_enter Tryz.func70,Tryz.ntmps70
  go_wp2_with fail;refine(HC.out w).mono ?_;rintro e w1 ⟨rfl,hb1⟩;go_wp2_with fail;go_ret;exact⟨rfl,hb1⟩
 ·rw [hc] at HC
  obtain⟨n,rfl,hn⟩:=isCrew_nat hc;clear hc
  have hw:Hid (IntKind.u64.wrap (2^n) = ((2^n:Nat) :Int)):=LH (by
   have hp:=pow_crew hn;have e: (2:Int) ^n= ((2^n:Nat) :Int):=by norm_cast
   rw [e,wrap_u64s (by omega) (by omega)])
  go_enter Tryz.func70,Tryz.ntmps70
  go_wp2_with fail;refine(HC.out w).mono ?_;rintro e w1 ⟨rfl,hb1⟩;go_wp2_with fail;go_ret;refine⟨?_,hb1⟩;simp only [Array.getD_eq_getD_getElem?,Int.toNat_natCast];simp [hw.out]
theorem crew_With (s:Nat) (i:Int) (hs:s<2^64) (w:World) :Calls Tryz.prog 31 #[.int .u64 s,.int .i64 i] w fun e w'=>e=.returned (.int .u64 (withC s i))∧Below w.heap.size w w':=by
 have HC:=LH (fun W=>crew_one i W);unfold withC
 cases hc:isCrew i
 ·rw [hc] at HC
  clear hc;simp only [Bool.false_eq_true,if_false] at HC⊢
  have h0:Hid (bits BinOp.or IntKind.u64 (s:Int) 0= (s:Int)):=LH (by
   have:=(bits_nat .u64 64 (by decide) (fun n h0 h1=>wrap_u64s h0 h1) s 0 hs (by decide)).2
   simpa using this)
  go_enter Tryz.func31,Tryz.ntmps31
  go_wp2_with fail;refine(HC.out w).mono ?_;rintro e w1 ⟨rfl,hb1⟩;go_wp2_with fail;go_ret;refine⟨?_,hb1⟩;simp [h0.out]
 ·rw [hc] at HC
  obtain⟨n,rfl,hn⟩:=isCrew_nat hc;clear hc;simp only [if_true,Int.toNat_natCast] at HC⊢;have h0:=LH (or_pow s n hs hn);obtain⟨p,hp⟩ : ∃p,p=2^n:=⟨_,rfl⟩;rw [←hp] at HC h0⊢;clear hp;generalize (if hasN s n=true then s else s+p) =sp at h0⊢
  go_enter Tryz.func31,Tryz.ntmps31
  go_wp2_with fail;refine(HC.out w).mono ?_;rintro e w1 ⟨rfl,hb1⟩;go_wp2_with fail;go_ret;refine⟨?_,hb1⟩;have h2:=h0.out;simp only [Array.getD_eq_getD_getElem?];simp [h2]
theorem crew_Has (s:Nat) (i:Int) (hs:s<2^64) (w:World) :Calls Tryz.prog 99 #[.int .u64 s,.int .i64 i] w fun e w'=>e=.returned (.bool (hasC s i))∧Below w.heap.size w w':=by
 have HC:=LH (fun W=>crew_is i W);unfold hasC
 cases hc:isCrew i
 ·rw [hc] at HC
  clear hc
  go_enter Tryz.func99,Tryz.ntmps99
  go_wp2_with fail;refine(HC.out w).mono ?_;rintro e w1 ⟨rfl,hb1⟩;go_wp2_with fail;go_ret;exact⟨by simp,hb1⟩
 ·rw [hc] at HC
  obtain⟨n,rfl,hn⟩:=isCrew_nat hc;clear hc;have h0:=LH (and_one s n hs)
  go_enter Tryz.func99,Tryz.ntmps99
  go_wp2_with fail;refine(HC.out w).mono ?_;rintro e w1 ⟨rfl,hb1⟩;go_wp2_with fail;go_ret;refine⟨?_,hb1⟩;have:=h0.out;simp [this]
theorem crew_Right (s:Nat) (w:World) :Calls Tryz.prog 179 #[.int .u64 s] w fun e w'=>e=.returned (.bool (rightC s))∧Below w.heap.size w w':=by
 have e:decide ((s:Int)≤281474976710655) =decide (s≤281474976710655):=decide_eq_decide.2 (by omega);unfold rightC;rw [←e];clear e
 go_enter Tryz.func179,Tryz.ntmps179
 go_wp2_with fail;go_ret;exact⟨rfl,Below.refl _ _⟩
theorem ref27_Is (i:Int) (w:World) :Calls Tryz.prog 129 #[.int .i64 i] w fun e w'=>e=.returned (.bool (isCrew i))∧Below w.heap.size w w':=by
 unfold isCrew;by_cases h:0≤i
 ·have h1:decide (0≤i) =true:=by simpa using h
  go_enter Tryz.func129,Tryz.ntmps129
  go_wp2_with fail;go_ret;exact⟨by simp [h],Below.refl _ _⟩
 ·have h1:decide (0≤i) =false:=by simpa using h
  go_enter Tryz.func129,Tryz.ntmps129
  go_wp2_with fail;go_ret;exact⟨by simp [h],Below.refl _ _⟩
theorem pow_step {q n:Nat} (h:q<n) (hn:n≤48) :IntKind.u64.wrap (2* ((2^q:Nat) :Int)) = ((2^ (q+1) :Nat) :Int):=by
 have h1:2^ (q+1)≤2^48:=Nat.pow_le_pow_right (by decide) (by omega);have h2:2^ (q+1) =2*2^q:=by rw [Nat.pow_succ];omega
 rw [wrap_u64s (by omega) (by omega)];omega
theorem ref27_bit (n:Nat) (hn:n≤48) (w:World) :Calls Tryz.prog 162 #[.int .i64 n] w fun e w'=>e=.returned (.int .u64 ((2^n:Nat) :Int))∧Below w.heap.size w w':=by
 have HP:=LH (fun q (h:q<n)=>pow_step h hn)
 go_enter Tryz.func162,Tryz.ntmps162
 go_wp2_with fail
 go_loopw [3,4] (fun s i wr=>∃q,q≤n∧i=.int .i64 q∧s=.int .u64 ((2^q:Nat) :Int)∧Below w.heap.size w wr) (fun _ i _=>n - (intOf i).toNat)
 case atStart=>exact⟨0,Nat.zero_le _,rfl,rfl,Below.refl _ _⟩
 case round=>
  obtain⟨q,hq,rfl,rfl,hB⟩:=hrel;by_cases hlt:q<n
  ·have hst:=LH (HP.out q hlt)
   obtain⟨p,hp⟩ : ∃p,p=2^q:=⟨_,rfl⟩;rw [←hp] at hst⊢;have HPq:=LH hp;clear hp;obtain⟨p2,hp2⟩ : ∃p,p=2^ (q+1):=⟨_,rfl⟩;rw [←hp2] at hst;have HP2:=LH hp2;clear hp2;go_wp2_with fail;go_roundw
   case rel=>exact⟨q+1,hlt,by go_num,by rw [hst.out,HP2.out],hB⟩
   case measure=>simp [intOf];omega
  ·obtain rfl:q=n:=by omega
   go_wp2_with fail;go_ret;refine⟨?_,hB⟩;simp
theorem ref27_Right (s:Nat) (w:World) :Calls Tryz.prog 130 #[.int .u64 s] w fun e w'=>e=.returned (.bool (rightC s))∧Below w.heap.size w w':=by
 have e:decide ((s:Int) <281474976710656) =decide (s≤281474976710655):=decide_eq_decide.2 (by omega);have HB:Hid (Calls Tryz.prog 162 #[.int .i64 48] w fun e w'=>e=.returned (.int .u64 281474976710656)∧Below w.heap.size w w'):=LH (ref27_bit 48 (by decide) w);unfold rightC;rw [←e];clear e
 go_enter Tryz.func130,Tryz.ntmps130
 go_wp2_with fail;refine HB.out.mono ?_;rintro e w1 ⟨rfl,hb1⟩;go_wp2_with fail;go_ret;exact⟨rfl,hb1⟩
theorem ref_has {s n p:Nat} (hs:s<2^64) (hp:p=2^n) : ((IntKind.u64.wrap ((s:Int) / (p:Int))).tmod 2 == 1) =hasN s n:=by
 subst hp;have e: (s:Int) / ((2^n:Nat) :Int) = ((s / 2^n:Nat) :Int):=(Int.natCast_ediv s (2^n)).symm;have hl:s / 2^n≤s:=Nat.div_le_self _ _;rw [e];unfold hasN;generalize s / 2^n=q at hl⊢;rw [wrap_u64s (by omega) (by omega),Int.tmod_eq_emod_of_nonneg (by omega)];by_cases hc:q % 2=1
 ·have: (q:Int) % 2=1:=by omega
  simp [hc,this]
 ·have: (q:Int) % 2=0:=by omega
  simp [hc,this]
theorem ref27_Has (s:Nat) (i:Int) (hs:s<2^64) (w:World) :Calls Tryz.prog 131 #[.int .u64 s,.int .i64 i] w fun e w'=>e=.returned (.bool (hasC s i))∧Below w.heap.size w w':=by
 have HC:=LH (fun W=>ref27_Is i W);unfold hasC
 cases hc:isCrew i
 ·rw [hc] at HC
  clear hc
  go_enter Tryz.func131,Tryz.ntmps131
  go_wp2_with fail;refine(HC.out w).mono ?_;rintro e w1 ⟨rfl,hb1⟩;go_wp2_with fail;go_ret;exact⟨by simp,hb1⟩
 ·rw [hc] at HC
  obtain⟨n,rfl,hn⟩:=isCrew_nat hc;clear hc;have HB:=LH (fun W=>ref27_bit n (by omega) W);have hp:=pow_crew hn;have h0:=LH (fun p (h:p=2^n)=>ref_has hs h);obtain⟨p,hpe⟩ : ∃p,p=2^n:=⟨_,rfl⟩;have h1:=LH (h0.out p hpe);rw [←hpe] at HB hp;have hp1: ((p:Int) == 0) =false:=by simp;omega
  clear hpe h0;simp only [Int.toNat_natCast];generalize hasN s n=b at h1⊢
  go_enter Tryz.func131,Tryz.ntmps131
  go_wp2_with fail;refine(HC.out w).mono ?_;rintro e w1 ⟨rfl,hb1⟩;go_wp2_with fail;refine(HB.out w1).mono ?_;rintro e w2 ⟨rfl,hb2⟩;have B2:=LH (Below.then_ hb1 hb2);go_wp2_with fail;go_ret;refine⟨?_,B2.out⟩;have:=h1.out;simp [this]
structure Ltr where
 e:Int
 f:Int
 c:Nat
 b:List UInt8
def ltrV (x:Ltr) :Value:=.agg #[.int .i64 x.e,.int .i64 x.f,.int .u64 x.c,.string ⟨x.b.toArray⟩]
def rightL (x:Ltr) :Bool:=decide (0≤x.e) && hasC x.c x.f && rightC x.c && decide (x.b.length≤1048576)
def LtrAt (W:World) (g:Nat) (x:Ltr) :Prop:=W.heap[g]? =some (.cells #[.int .i64 x.e,.int .i64 x.f,.int .u64 x.c,.string ⟨x.b.toArray⟩] 183 (0,0))
theorem LtrAt.below {w w':World} {g:Nat} {x:Ltr} (h:LtrAt w g x) (hb:Below w.heap.size w w') :LtrAt w' g x:=bB h hb
theorem LtrAt.new (w:World) (x:Ltr) :LtrAt (w.alloc (.cells #[.int .i64 x.e,.int .i64 x.f,.int .u64 x.c,.string ⟨x.b.toArray⟩] 183)) w.heap.size x:=heap_alloc_new w _
theorem letter_Right (w:World) (x:Ltr) (hc:x.c<2^64) :Calls Tryz.prog 219 #[ltrV x] w fun e w'=>e=.returned (.bool (rightL x))∧Below w.heap.size w w':=by
 obtain⟨e,f,c,b⟩:=x;have HH:=LH (fun W=>crew_Has c f hc W);have HR:=LH (fun W=>crew_Right c W);have HB0:Hid (Below w.heap.size w (w.alloc (.cells #[.int .i64 e,.int .i64 f,.int .u64 c,.string ⟨b.toArray⟩] 183))):=LH bE;have HL0:=LH (LtrAt.new w ⟨e,f,c,b⟩);clear hc;unfold ltrV rightL;dsimp only;have hlb:decide ((b.length:Int)≤1048576) =decide (b.length≤1048576):=decide_eq_decide.2 (by omega);rw [←hlb];clear hlb;generalize hasC c f=z2 at HH⊢;generalize rightC c=z3 at HR⊢;by_cases h:0≤e
 ·have hd:decide (0≤e) =true:=by simpa using h
  rw [hd,Bool.true_and]
  cases z2
  ·rw [Bool.false_and,Bool.false_and]
   go_enter Tryz.func219,Tryz.ntmps219
   go_wp2_with fail;refine(HH.out _).mono ?_;rintro e1 w1 ⟨rfl,hb1⟩;have HB1:=LH (HB0.out.trans (hb1.mono (by simp)));clear hb1;go_wp2_with fail;exact bR (v:=.bool false) (by simp only [results,Tryz.results219];go_simp) rfl ⟨rfl,HB1.out⟩
  ·rw [Bool.true_and]
   generalize hZ: (z3 && decide ((b.length:Int)≤1048576)) =Z;have HZ:=LH hZ;clear hZ
   go_enter Tryz.func219,Tryz.ntmps219
   go_wp2_with fail;refine(HH.out _).mono ?_;rintro e1 w1 ⟨rfl,hb1⟩;have HB1:=LH (HB0.out.trans (hb1.mono (by simp)));have HL1:=LH (HL0.out.below hb1);clear hb1;have cc:=bC HL1.out;have cf:=bF HL1.out;have zb:=lB HL1.out;go_wp2_with fail;refine(HR.out _).mono ?_;rintro e2 w2 ⟨rfl,hb2⟩;have HB2:=LH (HB1.out.trans (hb2.mono HB1.out.size));have HL2:=LH (HL1.out.below hb2);clear hb2 cc cf zb;have cc2:=bC HL2.out;have cf2:=bF HL2.out;have zb2:=lB HL2.out
   cases z3
   ·go_wp2_with fail
    exact bR (v:=.bool false) (by simp only [results,Tryz.results219];go_simp) rfl ⟨by rw [←HZ.out,Bool.false_and],HB2.out⟩
   ·rw [Bool.true_and] at HZ
    go_wp2_with fail;exact bR (v:=.bool (decide ((b.length:Int)≤1048576))) (by simp only [results,Tryz.results219];go_simp) rfl ⟨by rw [←HZ.out],HB2.out⟩
 ·have hd:decide (0≤e) =false:=by simpa using h
  rw [hd,Bool.false_and,Bool.false_and,Bool.false_and]
  go_enter Tryz.func219,Tryz.ntmps219
  go_wp2_with fail;exact bR (v:=.bool false) (by simp only [results,Tryz.results219];go_simp) rfl ⟨rfl,HB0.out⟩
def ltrL (x:Ltr) :List Int:= [x.e,x.f,(x.c:Int),(x.b.length:Int)]
def ltrT (x:Ltr) :List UInt8:=sealT ([68,87,76,1] ++ putB (ltrL x) ++ x.b)
theorem letter_Encode (w:World) (x:Ltr) (h:rightL x=true) (he:i64 x.e) (hf:i64 x.f) :Calls Tryz.prog 171 #[ltrV x] w fun e w'=>e=.returned (.tuple #[.string ⟨(ltrT x).toArray⟩,.int .i64 0])∧Below w.heap.size w w':=by
 have hs:=h;simp only [rightL,hasC,rightC,isCrew,Bool.and_eq_true,decide_eq_true_eq] at hs;obtain⟨⟨⟨h1,⟨h2,_⟩⟩,h3⟩,h4⟩:=hs;have HR:=LH (fun W=>letter_Right W x (by omega));simp only [h] at HR;have HA0:=LH (LtrAt.new w x);have HB0:Hid (Below w.heap.size w (w.alloc (.cells #[.int .i64 x.e,.int .i64 x.f,.int .u64 x.c,.string ⟨x.b.toArray⟩] 183))):=LH bE;have hal: (ltrL x).all (fun y=>decide (0≤y)) =true:=by simp [ltrL];omega
 have hi: ∀y∈ltrL x,i64 y:=by
  intro y hy;simp only [ltrL,List.mem_cons,List.not_mem_nil,or_false] at hy;rcases hy with rfl|rfl|rfl|rfl
  ·exact he
  ·exact hf
  ·constructor <;> omega
  ·constructor <;> omega
 have HP:Hid (∀W,Calls Tryz.prog 216 #[.slice (some ⟨W.heap.size,0,none⟩) 4 4] (W.alloc (.cells #[.int .i64 x.e,.int .i64 x.f,.int .i64 (x.c:Int),.int .i64 (x.b.length:Int)] 3)) fun e w'=>e=.returned (.tuple #[.string ⟨(putB (ltrL x)).toArray⟩,.int .i64 0])∧Below W.heap.size W w'):=LH (fun W=>by
  have h5:=vary_Put _ _ _ (ltrL x) (Own.lit W encZ (ltrL x) 3 (Nat.le_refl _) (by simp [ltrL,maxLen])) hi (by simp [ltrL]) (by simp [ltrL]);refine h5.mono ?_;rintro e w' ⟨⟨t,he,ht⟩,hb⟩;rw [if_pos hal] at he;exact⟨by rw [he,ht hal],((Below.refl W.heap.size W).alloc (Nat.le_refl _) _).trans (hb.mono (by simp))⟩)
 have hcw:wrap64 (x.c:Int) = (x.c:Int):=by unfold wrap64;omega
 have hpl: (putB (ltrL x)).length≤36:=putB_len (L:=ltrL x) fun y hy=>(hi y hy).2
 have hlt: ([68,87,76,1] ++ putB (ltrL x) ++ x.b:List UInt8).length≤8000000:=by
  simp only [List.length_append,List.length_cons,List.length_nil];omega
 have HSe:=LH (fun W=>seal_Seal W ([68,87,76,1] ++ putB (ltrL x) ++ x.b) hlt);have hc1:=fun W=>run_string_add_lists (P:=Tryz.prog) W [68,87,76,1] (putB (ltrL x)) (by simp) (by omega);have hc2:=fun W=>run_string_add_lists (P:=Tryz.prog) W ([68,87,76,1] ++ putB (ltrL x)) x.b (by simp only [List.length_append,List.length_cons,List.length_nil];omega) (by omega);unfold ltrT;generalize hG:sealT ([68,87,76,1] ++ putB (ltrL x) ++ x.b) =G at HSe⊢;clear hG hlt hi hal;generalize hU: [68,87,76,1] ++ putB (ltrL x) =U at hc1 hc2 HSe;generalize putB (ltrL x) =V at HP hc1 hpl;generalize hY:U ++ x.b=Y at hc2 HSe;clear hU hY hpl he hf h h1 h2 h3;obtain⟨e,f,c,b⟩:=x;unfold ltrV at HR⊢;dsimp only at*
 go_enter Tryz.func171,Tryz.ntmps171
 go_wp2_with fail;refine(HR.out _).mono ?_;rintro e1 w1 ⟨rfl,hb1⟩;have HB1:=LH (HB0.out.trans (hb1.mono (by simp)));have HA1:=LH (HA0.out.below hb1);clear hb1;have cc:=bC HA1.out;have cf:=bF HA1.out;have zb:=lB HA1.out;go_wp2_with fail;refine(HP.out _).mono ?_;rintro e2 w2 ⟨rfl,hb2⟩;have HB2:=LH (HB1.out.trans (hb2.mono HB1.out.size));have HA2:=LH (HA1.out.below hb2);clear hb2 cc cf zb;have cc2:=bC HA2.out;have cf2:=bF HA2.out;have zb2:=lB HA2.out;go_wp2_with fail;refine(HSe.out _).mono ?_;rintro e3 w3 ⟨rfl,hb3⟩;have HB3:=LH (HB2.out.trans (hb3.mono HB2.out.size));clear hb3;go_wp2_with fail
 all_goals exact bR (v:=.tuple #[.string ⟨G.toArray⟩,.int .i64 0]) (by simp only [results,Tryz.results171];go_simp) rfl ⟨rfl,HB3.out⟩
theorem DigAt.drew {w:World} {g K l:Nat} {k:Int} {r:List Nd} {F:Nat→Prop} (h:DigAt w g K l k r F) :DigAt w.drew g K l k r F:=h.keep fun b hb=>rfl
def goodL (l k K:Int) (r:List Nd) :Prop:=r.length≤150∧¬(K=1∧10<l)∧loadErr l k K r=0
def LPost (K l:Nat) (k:Int) (r:List Nd) (d:Value) (w:World) (e:Ending) (w':World) :Prop:=∃g F,e=.returned (.tuple #[.pointer (some ⟨g,0,none⟩),d])∧DigAt w' g K l k r F∧(∀b,F b→w.heap.size≤b)∧Below w.heap.size w w'
def nodes16:List Nd:= [(1,1),(4,2),(7,3)]
theorem weighR_none {l:Int} {f:Int→Int→Bool} {r:List Nd} (h: ∀x∈r,f (endsOf l x.1).1 (endsOf l x.1).2.1=false) :weighR l f r=0:=by
 induction r with
 |nil=>rfl
 |cons x r ih=>
  simp only [weighR];rw [if_neg (by rw [h x (by simp)];simp),ih fun y hy=>h y (by simp [hy])];rfl
theorem ends_bounds {l:Nat} {id:Int} (h:isNode l id=true) :0≤(endsOf l id).1∧(endsOf l id).1≤(endsOf l id).2.1∧(endsOf l id).2.1≤2^l - 1:=by
 obtain⟨n,x,hn,rfl,hn1,hn2,hx1,hx2⟩:=isNode_nat h;obtain rfl:n=l:=by omega
 obtain⟨d,b,t,hd,hb,hdb,hxt,htd,hprod⟩:=node_facts hn2 hx1 hx2
 have e1:endsOf n x= ((t:Int) *2^b,(t:Int) *2^b+2^b - 1,true):=by
  simp only [endsOf,h,if_true,Int.toNat_natCast,hd,hb];have: (x:Int) - 2^d=t:=by rw [hxt];push_cast;omega
  rw [this]
 rw [e1];have q3:=pow_pos' b
 have q8: (t:Int) *2^b+2^b≤2^n:=by
  have h: (((t+1) *2^b:Nat) :Int)≤((2^n:Nat) :Int):=by exact_mod_cast hprod
  push_cast at h
  rw [Int.add_mul,Int.one_mul] at h;exact h
 have q9:0≤(t:Int) *2^b:=Int.mul_nonneg (by omega) (by omega);simp only;omega
def loN (l:Nat) (x:Int) :Int:=(endsOf l x).1
def hiN (l:Nat) (x:Int) :Int:=(endsOf l x).2.1
def abv (p q:Int) :Bool:=decide (1≤p∧1≤q∧p.toNat.log2≤q.toNat.log2∧q.toNat / 2^ (q.toNat.log2 - p.toNat.log2) =p.toNat)
theorem node_shape {l:Nat} {id:Int} (h:isNode l id=true) : ∃d b t:Nat,d+b=l∧id= ((2^d+t:Nat) :Int)∧t<2^d∧(2^d+t).log2=d∧loN l id= (t:Int) *2^b∧hiN l id= (t:Int) *2^b+2^b - 1:=by
 obtain⟨n,x,hn,rfl,hn1,hn2,hx1,hx2⟩:=isNode_nat h;obtain rfl:n=l:=by omega
 obtain⟨d,b,t,hd,hb,hdb,hxt,htd,hprod⟩:=node_facts hn2 hx1 hx2
 have e1:endsOf n x= ((t:Int) *2^b,(t:Int) *2^b+2^b - 1,true):=by
  simp only [endsOf,h,if_true,Int.toNat_natCast,hd,hb];have: (x:Int) - 2^d=t:=by rw [hxt];push_cast;omega
  rw [this]
 exact⟨d,b,t,hdb,by rw [hxt],htd,by rw [←hxt];exact hd,by unfold loN;rw [e1],by unfold hiN;rw [e1]⟩
theorem log2_shape {d t:Nat} (h:t<2^d) : (2^d+t).log2=d:=by
 rw [Nat.log2_eq_iff (by have:=Nat.two_pow_pos d;omega)];rw [Nat.pow_succ];omega
theorem node_of_shape {l d b t:Nat} (hl:1≤l∧l≤48) (hdb:d+b=l) (ht:t<2^d) :isNode l ((2^d+t:Nat) :Int) =true:=by
 have h1:=Nat.two_pow_pos d;have h2: (2:Nat) ^d≤2^l:=Nat.pow_le_pow_right (by decide) (by omega);have h3: ((2^l:Nat) :Int) =2^l:=by simp
 simp only [isNode,decide_eq_true_eq,Int.toNat_natCast];omega
section
variable {l:Nat} {p q:Int}
theorem lo_hi (hp:isNode l p=true) :loN l p≤hiN l p:=(ends_bounds hp).2.1
theorem isNode_l (hp:isNode l p=true) :1≤l∧l≤48:=by
 simp only [isNode,decide_eq_true_eq] at hp;omega
theorem node_kids (hp:isNode l p=true) (hb:p.toNat.log2<l) :isNode l (2*p) =true∧isNode l (2*p+1) =true∧loN l (2*p) =loN l p∧hiN l (2*p+1) =hiN l p∧loN l (2*p+1) =hiN l (2*p) +1∧(2*p).toNat.log2=p.toNat.log2+1∧(2*p+1).toNat.log2=p.toNat.log2+1:=by
 have hl:=isNode_l hp;obtain⟨d,b,t,h1,rfl,h2,h3,h4,h5⟩:=node_shape hp;rw [Int.toNat_natCast,h3] at hb;obtain⟨c,rfl⟩ : ∃c,b=c+1:=⟨b - 1,by omega⟩;have e1:2* ((2^d+t:Nat) :Int) = ((2^ (d+1) +2*t:Nat) :Int):=by rw [Nat.pow_succ];push_cast;omega
 have e2:2* ((2^d+t:Nat) :Int) +1= ((2^ (d+1) + (2*t+1) :Nat) :Int):=by rw [Nat.pow_succ];push_cast;omega
 have q1:2*t<2^ (d+1):=by rw [Nat.pow_succ];omega
 have q2:2*t+1<2^ (d+1):=by rw [Nat.pow_succ];omega
 have n1:=node_of_shape (b:=c) hl (by omega) q1;have n2:=node_of_shape (b:=c) hl (by omega) q2;rw [e2,e1];refine⟨n1,n2,?_⟩;obtain⟨d',b',t',g1,g2,g3,g4,g5,g6⟩:=node_shape n1;obtain⟨d'',b'',t'',f1,f2,f3,f4,f5,f6⟩:=node_shape n2;have i1:=log2_shape q1;have i2:=log2_shape q2;have g2':=Int.ofNat.inj g2;have f2':=Int.ofNat.inj f2;rw [←g2',i1] at g4;rw [←f2',i2] at f4;subst g4 f4;obtain rfl:b'=c:=by omega
 obtain rfl:b''=b':=by omega
 obtain rfl:t'=2*t:=by omega
 obtain rfl:t''=2*t+1:=by omega
 rw [g5,g6,f5,f6,h4,h5,Int.toNat_natCast,Int.toNat_natCast,Int.toNat_natCast,h3,i1,i2,Int.pow_succ]
 push_cast
 refine⟨?_,?_,?_,rfl,rfl⟩
 ·rw [Int.mul_comm 2 (t:Int),Int.mul_assoc,Int.mul_comm 2]
 ·rw [Int.add_mul,Int.mul_comm 2 (t:Int),Int.mul_assoc,Int.mul_comm 2];omega
 ·rw [Int.add_mul];omega
end
def held (l:Nat) (ids:List Int) (v:Int) :Prop:=∃t∈ids,loN l t≤v∧v≤hiN l t
def sibN (t:Int) :Int:=if t % 2=0 then t+1 else t - 1
def climb:List Int→Int→List Int×Int
 | [],x=>([],x)
 |t :: ts,x=>if sibN t=x then climb ts (x / 2) else (t :: ts,x)
def joinStep (T:List Int) (x:Int) :List Int:=
 match T with
 | []=> [x]
 |t :: ts=>if abv t x=true then t :: ts else (climb (t :: ts) x).2 :: (climb (t :: ts) x).1
def joinF (s:List Int) :List Int:=s.foldl joinStep []
def leT (l:Nat) (a b:Int) :Prop:=loN l a<loN l b∨(loN l a=loN l b∧a≤b)
structure ClimbOf (l:Nat) (T:List Int) (x:Int) (T':List Int) (j:Int) :Prop where
 node:isNode l j=true
 suf:T' <:+ T
 left: ∀t∈T',hiN l t<loN l j
 hi:hiN l j=hiN l x
 lo:loN l j=loN l x∨∃t∈T,loN l j=loN l t
 lole:loN l j≤loN l x
 all: ∀t∈T,t∈T'∨abv j t=true
 in_: ∀v,loN l j≤v→v≤hiN l j→(loN l x≤v∧v≤hiN l x)∨∃t∈T,loN l t≤v∧v≤hiN l t
 stop: ∀t ts,T'=t :: ts→sibN t≠j
structure JInv (l:Nat) (pre T:List Int) :Prop where
 node: ∀t∈T,isNode l t=true
 sep:T.Pairwise (fun a b=>hiN l b<loN l a)
 low: ∀t∈T,∃q∈pre,loN l q=loN l t
 cov: ∀q∈pre,∃t∈T,abv t q=true
 sub: ∀t∈T,∀v,loN l t≤v→v≤hiN l t→held l pre v
 sib:T.Pairwise (fun a b=>sibN b≠a)
structure Tiles (l:Nat) (C:Int→Prop) (T:List Int) :Prop where
 node: ∀t∈T,isNode l t=true
 cov: ∀v,held l T v↔C v
 top: ∀x,isNode l x=true→(∀v,loN l x≤v→v≤hiN l x→C v)→∃t∈T,abv t x=true
def layT (l:Nat) (a b:Int) :Nat→Int→List Int
 |0,x=>if hiN l x<a∨b<loN l x then [] else [x]
 |h+1,x=>if hiN l x<a∨b<loN l x then [] else if a≤loN l x∧hiN l x≤b then [x] else layT l a b h (2*x) ++ layT l a b h (2*x+1)
def ofTiles (l:Nat) (a b:Int) :List Int:=layT l a b l 1
def restStep (l:Nat) (o:List Int×Int) (x:Int) :List Int×Int:=(if o.2<loN l x then o.1 ++ ofTiles l o.2 (loN l x - 1) else o.1,hiN l x+1)
def restF (l:Nat) (T:List Int) :List Int×Int:=T.foldl (restStep l) ([],0)
def restL (l:Nat) (T:List Int) :List Int:=if (restF l T).2≤2^l - 1 then (restF l T).1 ++ ofTiles l (restF l T).2 (2^l - 1) else (restF l T).1
structure RInv (l:Nat) (pre:List Int) (o:List Int×Int) :Prop where
 from0:0≤o.2∧o.2≤2^l
 last:0<o.2→held l pre (o.2 - 1)
 below: ∀t∈pre,hiN l t<o.2
 node: ∀t∈o.1,isNode l t=true
 cov: ∀v,held l o.1 v↔(0≤v∧v<o.2)∧¬held l pre v
 top: ∀x,isNode l x=true→hiN l x<o.2→(∀v,loN l x≤v→v≤hiN l x→¬held l pre v)→∃t∈o.1,abv t x=true
theorem Fits.nodes {l:Nat} {r:List Nd} (hf:Fits l r) (hl:1≤l∧l≤48) : ∀x∈r,isNode l x.1=true:=by
 intro x hx;have h1:=(hf.roll.2 x hx).1;have h2:=hf.lt x hx;simp only [isNode,decide_eq_true_eq,Int.toNat_natCast];omega
structure Tr where
 leaf:Int
 node:Int
 c:Int
def wTr (f:Tr→Bool) :List Tr→Int
 | []=>0
 |t :: T=>(if f t=true then t.c else 0) +wTr f T
def wIds (p:Int→Bool) :List Nd→Int
 | []=>0
 |x :: r=>(if p x.1=true then x.2 else 0) +wIds p r
theorem weighR_ids (l:Int) (f:Int→Int→Bool) (r:List Nd) :weighR l f r=wIds (fun id=>f (endsOf l id).1 (endsOf l id).2.1) r:=by
 induction r with
 |nil=>rfl
 |cons x r ih=>simp only [weighR,wIds,ih]
theorem sumR_ids (r:List Nd) :sumR r=wIds (fun _=>true) r:=by
 induction r with
 |nil=>rfl
 |cons x r ih=>simp only [sumR,wIds,ih];simp
theorem wTr_nonneg {T:List Tr} (h: ∀t∈T,1≤t.c) (f:Tr→Bool) :0≤wTr f T:=by
 induction T with
 |nil=>simp [wTr]
 |cons t T ih=>
  have h1:=h t (by simp);have h2:=ih fun u hu=>h u (by simp [hu]);simp only [wTr]
  split <;> omega
theorem wTr_le {T:List Tr} (h: ∀t∈T,1≤t.c) {f g:Tr→Bool} (hfg: ∀t∈T,f t=true→g t=true) :wTr f T≤wTr g T:=by
 induction T with
 |nil=>simp [wTr]
 |cons t T ih=>
  have h1:=h t (by simp);have h2:=ih (fun u hu=>h u (by simp [hu])) fun u hu=>hfg u (by simp [hu]);have h3:=hfg t (by simp);simp only [wTr];by_cases hf:f t=true
  ·rw [if_pos hf,if_pos (h3 hf)];omega
  ·rw [if_neg hf];split <;> omega
theorem wTr_append (f:Tr→Bool) (S T:List Tr) :wTr f (S ++ T) =wTr f S+wTr f T:=by
 induction S with
 |nil=>simp [wTr]
 |cons t S ih=>simp only [List.cons_append,wTr,ih];omega
theorem wTr_split (g:Tr→Bool) (k:Tr→Int) (a:Int) (T:List Tr) :wTr g T=wTr (fun t=>g t && (k t == a)) T+wTr g (T.filter fun t=>k t != a):=by
 induction T with
 |nil=>rfl
 |cons t T ih=>
  simp only [wTr,List.filter_cons,ih];by_cases hk:k t=a
  ·simp [hk];omega
  ·simp [hk,wTr];omega
theorem wTr_key (p:Int→Bool) (k:Tr→Int) (a:Int) (T:List Tr) :wTr (fun t=>p (k t) && (k t == a)) T=if p a=true then wTr (fun t=>k t == a) T else 0:=by
 induction T with
 |nil=>simp [wTr]
 |cons t T ih=>
  simp only [wTr,ih];by_cases hk:k t=a
  ·subst hk
   by_cases hp:p (k t) =true
   ·simp [hp]
   ·simp [hp]
  ·have: (k t == a) =false:=by simpa using hk
   simp only [this,Bool.and_false,Bool.false_eq_true,if_false,Int.zero_add]
theorem wTr_none {T:List Tr} {f:Tr→Bool} (h: ∀t∈T,f t=false) :wTr f T=0:=by
 induction T with
 |nil=>rfl
 |cons t T ih=>simp only [wTr,h t (by simp),ih fun u hu=>h u (by simp [hu])];simp
theorem wIds_tr (p:Int→Bool) (k:Tr→Int) {r:List Nd} : ∀(T:List Tr),Roll r→(∀t∈T,1≤t.c)→(∀id,getR r id=wTr (fun t=>k t == id) T)→wIds p r=wTr (fun t=>p (k t)) T:=by
 induction r with
 |nil=>
  intro T _ hT h
  cases T with
  |nil=>rfl
  |cons t T=>
   have h1:=h (k t);have h2:=wTr_nonneg (fun u hu=>hT u (by simp [hu])) (fun u=>k u == k t) (T:=T);have h3:=hT t (by simp);simp only [getR,wTr,BEq.rfl,if_true] at h1;omega
 |cons x r ih=>
  intro T hr hT h;have h1:=h x.1;simp only [getR,if_true] at h1;rw [wTr_split (fun t=>p (k t)) k x.1 T,wTr_key];simp only [wIds];rw [←h1]
  congr 1
  refine ih _ hr.tail (fun t ht=>hT t (List.mem_filter.1 ht).1) fun id=> ?_;by_cases hid:id=x.1
  ·subst hid
   rw [getR_none (fun y hy=>by have:=hr.head y hy;omega),wTr_none];intro t ht;have:=(List.mem_filter.1 ht).2
   simpa using this
  ·have h2:=h id
   simp only [getR] at h2;rw [if_neg (fun e=>hid e.symm)] at h2
   rw [h2,wTr_split (fun t=>k t == id) k x.1 T,wTr_none (f:=fun t=>(k t == id) && (k t == x.1)) (fun t _=>by
    by_cases e:k t=id
    ·simp [e,hid]
    ·simp [e])]
   simp
def Flow (l:Nat) (r q:List Nd) :Prop:=∃T:List Tr,(∀t∈T,1≤t.c)∧
 (∀t∈T,isNode l t.node=true∧isNode l t.leaf=true∧(endsOf l t.node).1≤(endsOf l t.leaf).1∧(endsOf l t.leaf).2.1≤(endsOf l t.node).2.1)∧
 (∀id,getR r id=wTr (fun t=>t.node == id) T)∧(∀id,getR q id=wTr (fun t=>t.leaf == id) T)
section
variable {l:Nat} {r q:List Nd}
theorem Flow.nil (l:Nat) :Flow l [] []:=⟨[],by simp,by simp,fun _=>rfl,fun _=>rfl⟩
theorem Flow.add (h:Flow l r q) (hr:Roll r) (hq:Roll q) {id c:Int} (hid:isNode l id=true) (hc:1≤c) :Flow l (addR r id c) (addR q id c):=by
 obtain⟨T,h1,h2,h3,h4⟩:=h;refine⟨⟨id,id,c⟩ :: T,?_,?_,?_,?_⟩
 ·intro t ht
  rcases List.mem_cons.1 ht with rfl|ht
  ·exact hc
  ·exact h1 t ht
 ·intro t ht
  rcases List.mem_cons.1 ht with rfl|ht
  ·exact⟨hid,hid,Int.le_refl _,Int.le_refl _⟩
  ·exact h2 t ht
 ·intro j
  rw [getR_add hr,h3,h3];simp only [wTr];by_cases e:j=id
  ·subst e;simp;omega
  ·have: (id == j) =false:=by simpa using fun e'=>e e'.symm
   rw [if_neg e,this];simp
 ·intro j
  rw [getR_add hq,h4,h4];simp only [wTr];by_cases e:j=id
  ·subst e;simp;omega
  ·have: (id == j) =false:=by simpa using fun e'=>e e'.symm
   rw [if_neg e,this];simp
theorem Flow.fold (h:Flow l r q) {a b p:Int} {r':List Nd} (hp:isNode l p=true) (hab:a≠b) (hap:a≠p) (hbp:b≠p) (ha: (endsOf l p).1≤(endsOf l a).1∧(endsOf l a).2.1≤(endsOf l p).2.1) (hb: (endsOf l p).1≤(endsOf l b).1∧(endsOf l b).2.1≤(endsOf l p).2.1)
 (hr: ∀id,getR r' id=if id=p then getR r p+getR r a+getR r b else if id=a∨id=b then 0 else getR r id) :Flow l r' q:=by
 obtain⟨T,h1,h2,h3,h4⟩:=h;refine⟨T.map fun t=>if t.node=a∨t.node=b then {t with node:=p} else t,?_,?_,?_,?_⟩
 ·intro t ht
  obtain⟨u,hu,rfl⟩:=List.mem_map.1 ht;have:=h1 u hu
  split <;> exact this
 ·intro t ht
  obtain⟨u,hu,rfl⟩:=List.mem_map.1 ht;have:=h2 u hu
  split
  ·rename_i hn
   refine⟨hp,this.2.1,?_,?_⟩
   ·simp only
    rcases hn with hn|hn
    ·rw [hn] at this;omega
    ·rw [hn] at this;omega
   ·simp only
    rcases hn with hn|hn
    ·rw [hn] at this;omega
    ·rw [hn] at this;omega
  ·exact this
 ·intro id
  rw [hr,h3,h3,h3,h3];clear h1 h2 h3 h4 hr
  induction T with
  |nil=>simp [wTr]
  |cons t T ih=>
   simp only [List.map_cons,wTr];by_cases i1:id=p
   ·rw [if_pos i1] at ih⊢
    subst i1;by_cases ta:t.node=a
    ·have e1:t.node≠b:=by omega
     have e2:t.node≠id:=by omega
     simp [ta,hab,hap]
     omega
    ·by_cases tb:t.node=b
     ·simp [tb,hbp,fun e:b=a=>hab e.symm]
      omega
     ·simp [ta,tb]
      by_cases tp:t.node=id
      ·simp [tp];omega
      ·simp [tp];omega
   ·rw [if_neg i1] at ih⊢
    by_cases i2:id=a∨id=b
    ·rw [if_pos i2] at ih⊢
     by_cases t1:t.node=a∨t.node=b
     ·rw [if_pos t1]
      have: (p == id) =false:=by simpa using fun e=>i1 e.symm
      simp only [this];simp only [Bool.false_eq_true,if_false];omega
     ·rw [if_neg t1]
      have: (t.node == id) =false:=by
       simp only [beq_eq_false_iff_ne,ne_eq];rintro rfl;exact t1 i2
      simp only [this,Bool.false_eq_true,if_false];omega
    ·rw [if_neg i2] at ih⊢
     by_cases t1:t.node=a∨t.node=b
     ·rw [if_pos t1]
      have e1: (p == id) =false:=by simpa using fun e=>i1 e.symm
      have e2: (t.node == id) =false:=by
       simp only [beq_eq_false_iff_ne,ne_eq];rintro rfl;exact i2 t1
      simp only [e1,e2,Bool.false_eq_true,if_false];omega
     ·rw [if_neg t1];omega
 ·intro id
  rw [h4];clear h1 h2 h3 h4 hr
  induction T with
  |nil=>rfl
  |cons t T ih=>
   simp only [List.map_cons,wTr,ih];by_cases hc:t.node=a∨t.node=b
   ·rw [if_pos hc]
   ·rw [if_neg hc]
theorem Flow.join {r2 q2 r3 q3:List Nd} (h:Flow l r q) (k:Flow l r2 q2) (hr: ∀id,getR r3 id=getR r id+getR r2 id) (hq: ∀id,getR q3 id=getR q id+getR q2 id) :Flow l r3 q3:=by
 obtain⟨T,h1,h2,h3,h4⟩:=h;obtain⟨S,k1,k2,k3,k4⟩:=k;refine⟨T ++ S,fun t ht=> ?_,fun t ht=> ?_,fun id=> ?_,fun id=> ?_⟩
 ·rcases List.mem_append.1 ht with ht|ht
  ·exact h1 t ht
  ·exact k1 t ht
 ·rcases List.mem_append.1 ht with ht|ht
  ·exact h2 t ht
  ·exact k2 t ht
 ·rw [hr,wTr_append,h3,k3]
 ·rw [hq,wTr_append,h4,k4]
theorem Flow.sum (h:Flow l r q) (hr:Roll r) (hq:Roll q) :sumR r=sumR q:=by
 obtain⟨T,h1,h2,h3,h4⟩:=h;rw [sumR_ids,sumR_ids,wIds_tr _ (·.node) T hr h1 h3,wIds_tr _ (·.leaf) T hq h1 h4]
theorem Flow.le (h:Flow l r q) (hr:Roll r) (hq:Roll q) {f g:Int→Int→Bool} (hfg: ∀lo hi a b,lo≤a→b≤hi→f lo hi=true→g a b=true) :weighR l f r≤weighR l g q:=by
 obtain⟨T,h1,h2,h3,h4⟩:=h;rw [weighR_ids,weighR_ids,wIds_tr _ (·.node) T hr h1 h3,wIds_tr _ (·.leaf) T hq h1 h4];exact wTr_le h1 fun t ht hf=>hfg _ _ _ _ (h2 t ht).2.2.1 (h2 t ht).2.2.2 hf
theorem Flow.ge (h:Flow l r q) (hr:Roll r) (hq:Roll q) {f g:Int→Int→Bool} (hfg: ∀lo hi a b,lo≤a→a≤b→b≤hi→g a b=true→f lo hi=true) :weighR l g q≤weighR l f r:=by
 obtain⟨T,h1,h2,h3,h4⟩:=h;rw [weighR_ids,weighR_ids,wIds_tr _ (·.node) T hr h1 h3,wIds_tr _ (·.leaf) T hq h1 h4];exact wTr_le h1 fun t ht hf=>hfg _ _ _ _ (h2 t ht).2.2.1 (ends_bounds (h2 t ht).2.1).2.1 (h2 t ht).2.2.2 hf
end
theorem wIds_path {r:List Nd} (hr:Roll r) (p:Int→Bool) (m:Int) : ∀(path:List Int),(∀x∈r,p x.1=true→x.1∈path)→(∀a∈path,getR r a≤m)→0≤m→wIds p r≤path.length*m:=by
 intro path h1 h2 hm
 have key: ∀(path:List Int) (s:List Nd),Roll s→(∀x∈s,p x.1=true→x.1∈path)→wIds p s≤(path.map (getR s)).sum:=by
  intro path
  induction path with
  |nil=>
   intro s hs h
   have:wIds p s=0:=by
    clear hs
    induction s with
    |nil=>rfl
    |cons x s ih=>
     have h0:p x.1≠true:=fun e=>by have:=h x (by simp) e;simp at this
     simp only [wIds,if_neg h0,ih fun y hy=>h y (by simp [hy])];rfl
   rw [this];simp
  |cons a path ih=>
   intro s hs h
   have h3:=ih (delR s a) (hs.del a) fun x hx hp=>by
    have h4:=h x (delR_sub hx) hp;rcases List.mem_cons.1 h4 with h5|h5
    ·exfalso
     have h6:=getR_mem (hs.del a) hx;rw [h5,getR_del hs,if_pos rfl] at h6;have:=((hs.del a).2 x hx).2;omega
    ·exact h5
   have h7:wIds p s≤getR s a+wIds p (delR s a):=by
    clear ih h h3
    induction s with
    |nil=>simp [wIds,getR,delR]
    |cons x s ih=>
     have hx:=hs.2 x (by simp);simp only [getR,delR];by_cases e:x.1=a
     ·rw [if_pos e,if_pos e]
      simp only [wIds];split <;> omega
     ·rw [if_neg e,if_neg e]
      simp only [wIds];have:=ih hs.tail;omega
   have h8: (path.map (getR (delR s a))).sum≤(path.map (getR s)).sum:=by
    clear ih h h3 h7
    induction path with
    |nil=>simp
    |cons b path ih=>
     simp only [List.map_cons,List.sum_cons];have:=getR_del hs a b;have h9:=getR_nonneg hs b
     split at this <;> omega
   simp only [List.map_cons,List.sum_cons];omega
 refine Int.le_trans (key path r hr h1) ?_;clear key h1
 induction path with
 |nil=>simp
 |cons a path ih=>
  simp only [List.map_cons,List.sum_cons,List.length_cons];have h3:=h2 a (by simp);have h4:=ih fun b hb=>h2 b (by simp [hb])
  push_cast
  rw [Int.add_mul,Int.one_mul];omega
def pathOf (l:Nat) (y:Int) :List Int:=(List.range l).map fun d=>(2^l+y) / 2^ (l - d)
theorem pathOf_len (l:Nat) (y:Int) : (pathOf l y).length=l:=by simp [pathOf]
theorem on_path {l:Nat} {id y:Int} (h:isNode l id=true) (h1: (endsOf l id).1≤y) (h2:y< (endsOf l id).2.1) :id∈pathOf l y:=by
 obtain⟨n,x,hn,rfl,hn1,hn2,hx1,hx2⟩:=isNode_nat h;obtain rfl:n=l:=by omega
 obtain⟨d,b,t,hd,hb,hdb,hxt,htd,hprod⟩:=node_facts hn2 hx1 hx2
 have e1:endsOf n x= ((t:Int) *2^b,(t:Int) *2^b+2^b - 1,true):=by
  simp only [endsOf,h,if_true,Int.toNat_natCast,hd,hb];have: (x:Int) - 2^d=t:=by rw [hxt];push_cast;omega
  rw [this]
 rw [e1] at h1 h2;simp only at h1 h2;have hb0:b≠0:=by rintro rfl;simp at h1 h2;omega
 refine List.mem_map.2 ⟨d,List.mem_range.2 (by omega),?_⟩;have hbd:n - d=b:=by omega
 rw [hbd];have hpb:=pow_pos' b;have e2: (2:Int) ^n=2^d*2^b:=by rw [←Int.pow_add];congr 1;omega
 have e3: (x:Int) =2^d+t:=by rw [hxt];push_cast;omega
 rw [e2,e3];rw [Int.ediv_eq_iff_of_pos hpb];rw [Int.add_mul];omega

def encD:Enc Nat 1:=⟨fun x=> [.int .i64 x],fun _=>rfl,by intro x u hu;simp at hu;subst hu;rfl⟩
def dg (l:List Nat) (i:Nat) :Nat:=l.getD i 0
def valD:List Nat→Nat
 | []=>0
 |x :: l=>x+1000*valD l
def okD (l:List Nat) :Prop:=∀x∈l,x≤999
def cmpV (x y:Nat) :Int:=if x<y then -1 else if y<x then 1 else 0

section
variable {a c u d q rh:Nat}
end
end Go.Proofs.YtmdidmclfbfmiaaGreatDoor
