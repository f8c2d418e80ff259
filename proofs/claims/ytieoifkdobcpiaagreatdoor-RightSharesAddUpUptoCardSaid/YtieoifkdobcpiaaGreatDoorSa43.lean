/- Parts of the proof, joined: Package right (places): plain of a world. Package right (places): area. -/
import Derived.Test.YtieoifkdobcpiaaGreatDoorSa42
set_option maxRecDepth 100000
set_option maxHeartbeats 8000000
namespace Go.Proofs.YtieoifkdobcpiaaGreatDoor
open Go.RowKit Dw
abbrev encV:Value→List Value:=fun v=>[v]
theorem elSets:ElemT Tryz.prog 109 113 (.slice none 0 0) 1 24:=⟨Tryz.underlying109,zb,rfl,zc⟩
def SlA (w:World) (B:Option Addr) (aa:List (List Ar)):Prop :=
 ∃ b o:Nat,B=some ⟨b,o,none⟩∧b<w.heap.size∧∀ i (h:i<aa.length),∃ Ai ci,w.cell? ⟨b,o+i,none⟩=some (.slice Ai (aa[i]).length ci)∧Ars w Ai aa[i]
theorem SlA.below {w w':World} {B:Option Addr} {aa:List (List Ar)} (h:SlA w B aa) (hb:Below w.heap.size w w'):SlA w' B aa:=by
 obtain ⟨b,o,rfl,hlt,hc⟩:=h;refine ⟨b,o,rfl,Nat.lt_of_lt_of_le hlt hb.size,fun i hi=>?_⟩
 obtain ⟨Ai,ci,h1,h2⟩:=hc i hi;exact ⟨Ai,ci,(hb.cell hlt).trans h1,h2.below hb⟩
def SetsOf (w:World) (l:List Rg) (aa:List (List Ar)) (vs:List Value):Prop :=
 ∀ (i:Nat) (v:Value),vs[i]?=some v→∃ a,aa[i]?=some a∧∃ gi ci,v = .slice (some ⟨gi,0,none⟩) (inL l a).length ci∧w.heap[gi]?=some (.cells (bArr (inL l a) (inL l a).length) 4 (0,0))
theorem SetsOf.keep {w w':World} {l:List Rg} {aa:List (List Ar)} {vs:List Value} (h:SetsOf w l aa vs) (hk:∀ (g:Nat) (cs:Array Value),w.heap[g]?=some (.cells cs 4 (0,0))→w'.heap[g]?=w.heap[g]?):SetsOf w' l aa vs:=fun i v hv=>by
 obtain ⟨a,ha,gi,ci,h1,h2⟩:=h i v hv;exact ⟨a,ha,gi,ci,h1,(hk _ _ h2).trans h2⟩
theorem SetsOf.below {w w':World} {l:List Rg} {aa:List (List Ar)} {vs:List Value} (h:SetsOf w l aa vs) (hb:Below w.heap.size w w'):SetsOf w' l aa vs :=
 h.keep fun _ _ hg=>hb.block _ (zAg hg)
theorem SetsOf.push {w:World} {l:List Rg} {aa:List (List Ar)} {vs:List Value} (h:SetsOf w l aa vs) {a:List Ar} {gi ci:Nat} (ha:aa[vs.length]?=some a) (hg:w.heap[gi]?=some (.cells (bArr (inL l a) (inL l a).length) 4 (0,0))) :
  SetsOf w l aa (vs++[.slice (some ⟨gi,0,none⟩) (inL l a).length ci]):=fun i v hv=>by
 rcases Nat.lt_trichotomy i vs.length with h1 | h1 | h1
 ·rw [List.getElem?_append_left h1] at hv
  exact h i v hv
 ·subst h1
  simp at hv
  exact ⟨a,ha,gi,ci,hv.symm,hg⟩
 ·rw [List.getElem?_append_right za,List.getElem?_eq_none ze] at hv
  cases hv
theorem six_cells {w:World} {s:Nat} {a0 a1 a2 a3 a4 a5:Value} {T:TypeId} (h:w.heap[s]?=some (.cells #[a0,a1,a2,a3,a4,a5] T (0,0))) :
  w.cell? ⟨s,0,none⟩=some a0∧w.cell? ⟨s,1,none⟩=some a1∧w.cell? ⟨s,2,none⟩=some a2∧w.cell? ⟨s,3,none⟩=some a3∧w.cell? ⟨s,4,none⟩=some a4∧w.cell? ⟨s,5,none⟩=some a5 :=
 ⟨by rw [cell_of_row w _ 0 _ _ _ h];rfl,by rw [cell_of_row w _ 1 _ _ _ h];rfl,by rw [cell_of_row w _ 2 _ _ _ h];rfl,by rw [cell_of_row w _ 3 _ _ _ h];rfl,by rw [cell_of_row w _ 4 _ _ _ h];rfl,by rw [cell_of_row w _ 5 _ _ _ h];rfl⟩
theorem six_free {w:World} {s:Nat} {cs:Array Value} {T:TypeId} (h:w.heap[s]?=some (.cells cs T (0,0))) :
  w.frozen? ⟨s,0,none⟩=false∧w.frozen? ⟨s,1,none⟩=false∧w.frozen? ⟨s,2,none⟩=false∧w.frozen? ⟨s,3,none⟩=false∧w.frozen? ⟨s,4,none⟩=false∧w.frozen? ⟨s,5,none⟩=false :=
 ⟨frozen_of_row w _ 0 _ _ h,frozen_of_row w _ 1 _ _ h,frozen_of_row w _ 2 _ _ h,frozen_of_row w _ 3 _ _ h,frozen_of_row w _ 4 _ _ h,frozen_of_row w _ 5 _ _ h⟩
theorem below6 {B:Nat} {w w':World} {s:Nat} (h:Below B w w') (hs:B≤s) (b0 b1 b2 b3 b4 b5:Value):Below B w ((((((w'.setCell ⟨s,0,none⟩ b0).setCell ⟨s,1,none⟩ b1).setCell ⟨s,2,none⟩ b2).setCell ⟨s,3,none⟩ b3).setCell ⟨s,4,none⟩ b4).setCell ⟨s,5,none⟩ b5) :=
 (((((h.setCell (p:=⟨s,0,none⟩) hs _).setCell (p:=⟨s,1,none⟩) hs _).setCell (p:=⟨s,2,none⟩) hs _).setCell (p:=⟨s,3,none⟩) hs _).setCell (p:=⟨s,4,none⟩) hs _).setCell (p:=⟨s,5,none⟩) hs _
theorem z6 {j:Nat} {v:Value} (h:(#[zAm,.map none,zAm,.map none,zAm,zAm]:Array Value)[j]?=some v):v=zAm∨v = .map none:=by
 match j,h with
 | 0,h=>simp at h;exact .inl h.symm
 | 1,h=>simp at h;exact .inr h.symm
 | 2,h=>simp at h;exact .inl h.symm
 | 3,h=>simp at h;exact .inr h.symm
 | 4,h=>simp at h;exact .inl h.symm
 | 5,h=>simp at h;exact .inl h.symm
 | j+6,h=>rw [Array.getElem?_eq_none zd] at h;cases h
theorem rd1_set0 {α:Type} {f:α→Value} {w w':World} {A:Option Addr} {L:List α} {s:Nat} {T:TypeId} (h:Rd1 f w A L) (hs:w.heap[s]?=some (.cells #[zAm,.map none,zAm,.map none,zAm,zAm] T (0,0))) (hk:∀ x,x≠s→w'.heap[x]?=w.heap[x]?) (hf:∀ x,f x≠zAm∧f x≠.map none):Rd1 f w' A L:=fun hl=>by
 obtain ⟨b,o,rfl,hc⟩:=h hl;refine ⟨b,o,rfl,fun i hi=>?_⟩
 have hne:b≠s:=fun e=>by
  subst e;have:=hc i hi;rw [cell_of_row w b _ _ _ _ hs] at this
  rcases z6 this with h1 | h1
  ·exact (hf _).1 h1
  ·exact (hf _).2 h1
 rw [World.cell?_of_block (hk _ hne)];exact hc i hi
theorem rd2_set0 {α:Type} {f f2:α→Value} {w w':World} {A:Option Addr} {L:List α} {s:Nat} {T:TypeId} (h:Rd2 f f2 w A L) (hs:w.heap[s]?=some (.cells #[zAm,.map none,zAm,.map none,zAm,zAm] T (0,0))) (hk:∀ x,x≠s→w'.heap[x]?=w.heap[x]?) (hf:∀ x,f x≠zAm∧f x≠.map none):Rd2 f f2 w' A L:=fun hl=>by
 obtain ⟨b,o,rfl,hc⟩:=h hl;refine ⟨b,o,rfl,fun i hi=>?_⟩
 have hne:b≠s:=fun e=>by
  subst e;have:=(hc i hi).1;rw [cell_of_row w b _ _ _ _ hs] at this
  rcases z6 this with h1 | h1
  ·exact (hf _).1 h1
  ·exact (hf _).2 h1
 rw [World.cell?_of_block (hk _ hne),World.cell?_of_block (hk _ hne)];exact hc i hi
theorem WR.set0 {w w':World} {A:Option Addr} {r1 r2 g1 g2:Nat} {AL:Option Addr} {l:List Rg} {s:Nat} (h:WR w A r1 r2 g1 g2 AL l) (hs:w.heap[s]?=some (.cells #[zAm,.map none,zAm,.map none,zAm,zAm] 108 (0,0))) (hk:∀ x,x≠s→w'.heap[x]?=w.heap[x]?) (hsz:w.heap.size≤w'.heap.size):WR w' A r1 r2 g1 g2 AL l:=by
 obtain ⟨cs,hcs⟩:=h.h3;have hg2:g2≠s:=zAD hcs hs zc;refine ⟨rd2_set0 h.rg hs hk (fun x=>zd),h.m1.keep (hk _ (zAh h.m1 hs).symm),rd1_set0 h.lv hs hk (fun x=>zd),h.m2.keep (hk _ (zAh h.m2 hs).symm),fun i hi=>?_,fun i hi=>?_,Nat.lt_of_lt_of_le h.h1 hsz,Nat.lt_of_lt_of_le h.h2 hsz,cs,(hk _ hg2).trans hcs⟩
 ·have hne:g1≠s:=fun e=>by
   subst e;have:=h.up i hi;rw [cell_of_row w g1 _ _ _ _ hs] at this
   rcases z6 this with h1 | h1<;>simp at h1
  rw [World.cell?_of_block (hk _ hne)];exact h.up i hi
 ·obtain ⟨Ai,ci,h1,h2⟩:=h.bl i hi
  exact ⟨Ai,ci,by rw [World.cell?_of_block (hk _ hg2)];exact h1,rd1_set0 h2 hs hk (fun x=>zd)⟩
theorem size6 (w:World) (s:Nat) (b0 b1 b2 b3 b4 b5:Value):w.heap.size≤((((((w.setCell ⟨s,0,none⟩ b0).setCell ⟨s,1,none⟩ b1).setCell ⟨s,2,none⟩ b2).setCell ⟨s,3,none⟩ b3).setCell ⟨s,4,none⟩ b4).setCell ⟨s,5,none⟩ b5).heap.size:=zd
theorem own_rd {w w':World} {base n c:Nat} {T:TypeId} {O:Option Addr} {vs:List Value} (h:zAQ encV 1 w base T (.slice O n c) vs) (hk:∀ g,base≤g→w'.heap[g]?=w.heap[g]?):Rd1 id w' O vs:=by
 obtain ⟨O',c',e,hr⟩:=(own_keepB h fun g h1 _=>hk g h1).rd1
 injection e with e1
 subst e1;exact hr
def zw:Value:=.agg #[zAm,.map none,zAm,.map none,zAm,zAm]
def areasF (l:List Rg) (aa:List (List Ar)):Int:=if chkR l≠0 then chkR l else ((aa.map (chkA l)).find? fun f=>decide (f≠0)).getD 0
def GivesAs (A:Option Addr) (c:Nat) (l:List Rg) (aa:List (List Ar)) (w:World) (e:Ending) (w':World):Prop :=
 Below w.heap.size w w'∧((areasF l aa≠0∧e = .returned (.tuple #[zw,zAm,.int .i64 (areasF l aa)])) ∨
  (chkR l=0∧(∀ i (h:i<aa.length),chkA l aa[i]=0)∧∃ r1 r2 g1 g2 AL cL O co vs,e = .returned (.tuple #[wv A c r1 r2 g1 g2 AL cL l,.slice O aa.length co,.int .i64 0])∧WR w' A r1 r2 g1 g2 AL l ∧
   vs.length=aa.length∧Rd1 id w' O vs∧SetsOf w' l aa vs))
def ArRel (W:World) (l:List Rg) (aa:List (List Ar)) (m:Nat) (out i:Value) (wr:World):Prop :=
 ∃ (k:Nat) (vs:List Value),k+m=aa.length∧i = .int .i64 k∧vs.length=k∧(∀ j (h:j<aa.length),j<k→chkA l aa[j]=0)∧zAQ encV 1 wr W.heap.size 113 out vs∧SetsOf wr l aa vs∧Below W.heap.size W wr
theorem areasF_R {l:List Rg} {aa:List (List Ar)} (h:chkR l≠0):areasF l aa=chkR l:=by rw [areasF,if_pos h]
theorem areasF_A {l:List Rg} {aa:List (List Ar)} (h:chkR l=0) {k:Nat} (hk:k<aa.length) (hpre:∀ j (h:j<aa.length),j<k→chkA l aa[j]=0) (hf:chkA l aa[k]≠0):areasF l aa=chkA l aa[k]:=by
 rw [areasF,if_neg (by simp [h])]
 have:(aa.map (chkA l)).find? (fun f=>decide (f≠0))=some (chkA l aa[k]):=by
  rw [List.find?_eq_some_iff_getElem];refine ⟨by simpa using hf,k,by simpa using hk,zd,fun j hj=>?_⟩
  simp [hpre j za hj]
 rw [this];rfl
theorem areas_c (A B:Option Addr) (c cb:Nat) (l:List Rg) (aa:List (List Ar)) (w:World) (h:Rgs w A l) (hz:∀ i (h:i<l.length),(l[i]).nm.size≤9223372036854775807) (h2:SlA w B aa) (hn2:aa.length≤2) :
  Calls Tryz.prog 50 #[.slice A l.length c,.slice B aa.length cb] w (GivesAs A c l aa w):=by
 have hwb:Below w.heap.size w (w.alloc (.cells #[zAm,.map none,zAm,.map none,zAm,zAm] 108)):=(Below.refl _ _).alloc (Nat.le_refl _) _;have hblk:=heap_alloc_new w (.cells #[zAm,.map none,zAm,.map none,zAm,zAm] 108);generalize hres:chkR l=res;have HR:=zq hres
 go_enter Tryz.func50,Tryz.ntmps50
 go_wp2_with fail
 refine (CheckRegions_c _ _ _ _ (h.below hwb) hz).mono ?_
 rintro e w1 ⟨rfl,hb1⟩;have hw1:Below w.heap.size w w1:=zAb hwb hb1;have hblk1:w1.heap[w.heap.size]?=some (.cells #[zAm,.map none,zAm,.map none,zAm,zAm] 108 (0,0)):=(hb1.block _ zd).trans hblk;have h1:=h.below hw1;have h21:=h2.below hw1;have HW1:=zq hw1;rw [hres];clear hwb hblk hb1 h h2 hw1
 by_cases hr:res=0
 ·subst hr
  have g:=good_of hres;clear hres
  go_wp2_with fail
  refine (newWorld_c A c l w1 g h1).mono ?_
  rintro e w2 ⟨r1,r2,g1,g2,AL,cL,rfl,hwr2,hb2⟩;unfold wv;have hblk2:w2.heap[w.heap.size]?=some (.cells #[zAm,.map none,zAm,.map none,zAm,zAm] 108 (0,0)):=(hb2.block _ (zAg hblk1)).trans hblk1;have hsl2:=h21.below hb2;have hwb2:Below w.heap.size w w2:=zAb HW1.o hb2;clear hb2 HW1 h1 h21 hblk1;go_wp2;generalize hW:w2.alloc (.cells #[.slice A l.length c,.map (some r1),.slice AL (zCi l (fun i=>!zAF l i) l.length).length cL,.map (some r2),.slice (some ⟨g1,0,none⟩) l.length l.length,.slice (some ⟨g2,0,none⟩) l.length l.length] 108)=W
  have hWr:=heap_alloc_new w2 (.cells #[.slice A l.length c,.map (some r1),.slice AL (zCi l (fun i=>!zAF l i) l.length).length cL,.map (some r2),.slice (some ⟨g1,0,none⟩) l.length l.length,.slice (some ⟨g2,0,none⟩) l.length l.length] 108)
  have hWb:Below w2.heap.size w2 W:=yi;rw [hW] at hWr;have hw2W:w2.heap.size<W.heap.size:=zAg hWr;have hblkW:W.heap[w.heap.size]?=some (.cells #[zAm,.map none,zAm,.map none,zAm,zAm] 108 (0,0)):=(hWb.block _ (zAg hblk2)).trans hblk2;have hwW:w.heap.size<W.heap.size:=zAg hblkW;obtain ⟨s8,hs8⟩:∃ s8,s8=w2.heap.size:=⟨_,rfl⟩;rw [←hs8] at hWr hw2W ⊢;have HWR:=zq (hwr2.below hWb);have HSL:=zq (hsl2.below hWb);have HWb:=zq (hwb2.trans (hWb.mono hwb2.size));have HWr:=zq hWr;have HBk:=zq hblkW;clear hW hWr hWb hblkW hblk2 hwr2 hsl2 hwb2 hs8;clear w1 w2
  go_loopg [9,23] aa.length (ArRel W l aa)
  case atStart=>exact ⟨0,[],za,rfl,rfl,fun j _ hj=>absurd hj za,zAQ.nil _ _ _ _ _,fun i v hv=>by simp at hv,Below.refl _ _⟩
  case round =>
   obtain ⟨k,vs,hk,rfl,hvs,hpre,hown,hsets,hbel⟩:=hrel;have HK:=zq hk;have HP:=zq hpre;have HB:=zq hbel;have HV:=zq hvs;have hk1:k≤aa.length:=za;have hs8r:s8<wr.heap.size:=Nat.lt_of_lt_of_le hw2W hbel.size;have hwr:w.heap.size<wr.heap.size:=Nat.lt_of_lt_of_le hwW hbel.size;have hrow:wr.heap[s8]?=_:=(hbel.block _ hw2W).trans HWr.o;have hs0:wr.cell? ⟨s8,0,none⟩=some (.slice A l.length c):=by rw [cell_of_row _ s8 0 _ _ _ hrow];rfl
   have hs1:wr.cell? ⟨s8,1,none⟩=some (.map (some r1)):=by rw [cell_of_row _ s8 1 _ _ _ hrow];rfl
   have hs2:wr.cell? ⟨s8,2,none⟩=some (.slice AL (zCi l (fun i=>!zAF l i) l.length).length cL):=by rw [cell_of_row _ s8 2 _ _ _ hrow];rfl
   have hs3:wr.cell? ⟨s8,3,none⟩=some (.map (some r2)):=by rw [cell_of_row _ s8 3 _ _ _ hrow];rfl
   have hs4:wr.cell? ⟨s8,4,none⟩=some (.slice (some ⟨g1,0,none⟩) l.length l.length):=by rw [cell_of_row _ s8 4 _ _ _ hrow];rfl
   have hs5:wr.cell? ⟨s8,5,none⟩=some (.slice (some ⟨g2,0,none⟩) l.length l.length):=by rw [cell_of_row _ s8 5 _ _ _ hrow];rfl
   have HRow:=zq hrow;clear hk hpre hbel hvs hrow
   by_cases hlt:k<aa.length
   ·obtain ⟨b,o,rfl,hb,hc⟩:=HSL.o.below HB.o
    obtain ⟨Ai,ci,hci,hai⟩:=hc k hlt;have hwrr:=HWR.o.below HB.o;clear hc;generalize hak:chkA l aa[k]=fk;have HAK:=zq hak
    go_wp2_with fail
    refine (checkArea_c A Ai c r1 r2 g1 g2 AL cL ci l aa[k] wr g hwrr hai).mono ?_
    rintro e w3 ⟨rfl,hb3⟩;rw [hak]
    by_cases hf:fk=0
    ·subst hf
     have ga:=goodA_of hak;have hrow3:w3.heap[s8]?=_:=(hb3.block _ hs8r).trans HRow.o;obtain ⟨hs0',hs1',hs2',hs3',hs4',hs5'⟩:=six_cells hrow3;have hs8':s8<w3.heap.size:=zAg hrow3;have hwr3:=hwrr.below hb3;have hai3:=hai.below hb3;have hown3:=hown.below hb3;have hsets3:=hsets.below hb3;have hbel3:Below W.heap.size W w3:=zAb HB.o hb3;clear hs0 hs1 hs2 hs3 hs4 hs5 hrow3 hb3 hwrr hai hown hsets hak hci hb hwr
     go_wp2_with fail
     refine (in_c A Ai c r1 r2 g1 g2 AL cL ci l aa[k] w3 g ga hwr3 hai3).mono ?_
     rintro e w4 ⟨gi,cgi,rfl,hgi,hb4⟩;have hown4:=hown3.below hb4;have hsets4:=hsets3.below hb4;have hbel4:Below W.heap.size W w4:=zAb hbel3 hb4;have hWle:W.heap.size≤w4.heap.size:=hbel4.size;clear hown3 hsets3 hbel3 hb4 hs0' hs1' hs2' hs3' hs4' hs5' hwr3 hai3 hs8';have hvl:vs.length+1≤2:=by have:=HV.o;omega
     have HSP:=zq (SetsOf.push (ci:=cgi) hsets4 (a:=aa[k]) (gi:=gi) (by rw [HV.o];simp [hlt]) hgi)
     go_wp2_with (at_builtin;refine zDB _ _ _ elSets rfl rfl W.heap.size _ vs rfl (hown4.alloc _) w4.heap.size 1 (.slice (some ⟨gi,0,none⟩) (inL l aa[k]).length cgi) rfl (heap_alloc_new _ _) rfl zt zk za ze ?_;intro v5 w5 hown5 hg5 hb5)
     have hkeep:∀ (g:Nat) (cs:Array Value),w4.heap[g]?=some (.cells cs 4 (0,0))→w5.heap[g]?=w4.heap[g]?:=fun g cs hg =>
      (hg5.block _ (zAg (zBd hg)) fun e2=>by
       obtain ⟨_,cs',hcs⟩:=zBi hown4 e2.symm;exact zAD hg hcs zc rfl).trans ((zBd hg).trans hg.symm)
     have HO5:=zq hown5;have HS5:=zq (HSP.o.keep hkeep);have HB5:=zq ((hbel4.alloc hWle _).trans hb5);clear hown4 hsets4 hbel4 hown5 hg5 hb5 hkeep hgi HSP;go_wp2
     go_roundg (gk - 1)
     case measure=>have:=HK.o;omega
     case rel =>
      refine ⟨k+1,_,zh,zi,by simp [HV.o],fun j hj hjk=>?_,HO5.o,HS5.o,HB5.o⟩
      rcases Nat.lt_or_ge j k with h1 | h1
      ·exact HP.o j hj h1
      ·obtain rfl:j=k:=by omega
       exact HAK.o
    ·have hfb:(fk != 0)=true:=by simpa using hf
     have hblk3:w3.heap[w.heap.size]?=_:=(hb3.block _ hwr).trans ((HB.o.block _ hwW).trans HBk.o);obtain ⟨hd0,hd1,hd2,hd3,hd4,hd5⟩:=six_cells hblk3;obtain ⟨hf0,hf1,hf2,hf3,hf4,hf5⟩:=six_free hblk3;have ha:areasF l aa=fk:=by rw [areasF_A HR.o hlt HP.o (by rw [hak];exact hf)];exact hak
     have HA:=zq ha;have HB3:=zq (HWb.o.trans ((zAb HB.o hb3).mono (Nat.le_of_lt hwW)));clear hblk3 hs0 hs1 hs2 hs3 hs4 hs5 hb3 hwrr hai hown hsets hak hci hb hwr ha;go_wp2;refine bodyPost_ret (v:=.tuple #[zw,zAm,.int .i64 fk]) ?_ rfl ?_
     ·simp [results,Tryz.results50,go_sem,zw,hd0,hd1,hd2,hd3,hd4,hd5]
     ·exact ⟨below6 HB3.o (Nat.le_refl _) _ _ _ _ _ _,.inl ⟨by rw [HA.o];exact hf,by rw [HA.o]⟩⟩
   ·have hke:k=aa.length:=by omega
    have HKE:=zq hke;have hblk3:wr.heap[w.heap.size]?=_:=(HB.o.block _ hwW).trans HBk.o;obtain ⟨hd0,hd1,hd2,hd3,hd4,hd5⟩:=six_cells hblk3;obtain ⟨hf0,hf1,hf2,hf3,hf4,hf5⟩:=six_free hblk3;have HO:=zq hown;have HS:=zq hsets;have HB3:=zq (HWb.o.trans (HB.o.mono (Nat.le_of_lt hwW)));obtain ⟨O,co,rfl,hrd⟩:=hown.rd1;have HD:=zq hrd;have HBL:=zq hblk3;clear hblk3 hown hsets hke hrd;go_wp2;refine bodyPost_ret (v:=.tuple #[wv A c r1 r2 g1 g2 AL cL l,.slice O aa.length co,.int .i64 0]) ?_ rfl ?_
    ·have e:vs.length=aa.length:=by rw [HV.o,HKE.o]
     simp [results,Tryz.results50,go_sem,wv,hd0,hd1,hd2,hd3,hd4,hd5,e]
    ·refine ⟨below6 HB3.o (Nat.le_refl _) _ _ _ _ _ _,.inr ⟨HR.o,fun i hi=>HP.o i hi (by rw [HKE.o];exact hi),r1,r2,g1,g2,AL,cL,O,co,vs,rfl,?_,by rw [HV.o,HKE.o],?_,?_⟩⟩
     ·exact (HWR.o.below HB.o).set0 HBL.o (setCells6 _ _ _ _ _ _) (size6 _ _ _ _ _ _ _ _)
     ·exact own_rd HO.o fun g hg=>setCells6 _ _ _ _ _ _ _ (Nat.ne_of_gt (Nat.lt_of_lt_of_le hwW hg))
     ·exact HS.o.keep fun g cs hg=>setCells6 _ _ _ _ _ _ _ (fun e=>by rw [e,HBL.o] at hg;injection hg with hg;injection hg with _ hg;exact absurd hg zc)
 ·have hrb:(res != 0)=true:=by simpa using hr
  have hd0:w1.cell? ⟨w.heap.size,0,none⟩=some zAm:=by rw [cell_of_row w1 _ 0 _ _ _ hblk1];rfl
  have hd1:w1.cell? ⟨w.heap.size,1,none⟩=some (.map none):=by rw [cell_of_row w1 _ 1 _ _ _ hblk1];rfl
  have hd2:w1.cell? ⟨w.heap.size,2,none⟩=some zAm:=by rw [cell_of_row w1 _ 2 _ _ _ hblk1];rfl
  have hd3:w1.cell? ⟨w.heap.size,3,none⟩=some (.map none):=by rw [cell_of_row w1 _ 3 _ _ _ hblk1];rfl
  have hd4:w1.cell? ⟨w.heap.size,4,none⟩=some zAm:=by rw [cell_of_row w1 _ 4 _ _ _ hblk1];rfl
  have hd5:w1.cell? ⟨w.heap.size,5,none⟩=some zAm:=by rw [cell_of_row w1 _ 5 _ _ _ hblk1];rfl
  have hf0:=frozen_of_row w1 _ 0 _ _ hblk1;have hf1:=frozen_of_row w1 _ 1 _ _ hblk1;have hf2:=frozen_of_row w1 _ 2 _ _ hblk1;have hf3:=frozen_of_row w1 _ 3 _ _ hblk1;have hf4:=frozen_of_row w1 _ 4 _ _ hblk1;have hf5:=frozen_of_row w1 _ 5 _ _ hblk1;clear hblk1 hres;go_wp2;refine bodyPost_ret (v:=.tuple #[zw,zAm,.int .i64 res]) ?_ rfl ?_
  ·simp [results,Tryz.results50,go_sem,zw,hd0,hd1,hd2,hd3,hd4,hd5]
  ·have ha:areasF l aa=res:=by rw [areasF_R (by rw [HR.o];exact hr)];exact HR.o
   refine ⟨(((((HW1.o.setCell (p:=⟨w.heap.size,0,none⟩) (Nat.le_refl _) _).setCell (p:=⟨w.heap.size,1,none⟩) (Nat.le_refl _) _).setCell (p:=⟨w.heap.size,2,none⟩) (Nat.le_refl _) _).setCell (p:=⟨w.heap.size,3,none⟩) (Nat.le_refl _) _).setCell (p:=⟨w.heap.size,4,none⟩) (Nat.le_refl _) _).setCell (p:=⟨w.heap.size,5,none⟩) (Nat.le_refl _) _,.inl ⟨by rw [ha];exact hr,by rw [ha]⟩⟩
def GivesS2 (r:List ByteArray×Int) (w:World) (e:Ending) (w':World):Prop :=
 ∃ A c,e = .returned (.tuple #[.slice A r.1.length c,.int .i64 r.2])∧Strs w' A r.1∧Below w.heap.size w w'
theorem GivesS2.err {r:List ByteArray×Int} {w w':World} {f:Int} (hr:r=([],f)) (hw:Below w.heap.size w w'):GivesS2 r w (.returned (.tuple #[.slice none 0 0,.int .i64 f])) w':=by
 subst hr;exact ⟨none,0,rfl,Rd1.nil,hw⟩
theorem GivesS2.ok {r:List ByteArray×Int} {l:List ByteArray} {w w':World} {f:Int} {A:Option Addr} {c:Nat} (hr:r=(l,f)) (hl:Strs w' A l) (hw:Below w.heap.size w w'):GivesS2 r w (.returned (.tuple #[.slice A l.length c,.int .i64 f])) w':=by
 subst hr;exact ⟨A,c,rfl,hl,hw⟩
theorem areasF_1 (l:List Rg) (a:List Ar):areasF l [a]=if chkR l≠0 then chkR l else chkA l a:=by
 unfold areasF
 by_cases h:chkR l=0
 ·by_cases h2:chkA l a=0
  ·simp [h,h2]
  ·simp [h,h2]
 ·simp [h]
def lvTo (l:List Rg) (a:List Ar) (k:Nat):List ByteArray:=(((zAz l).take k).filter (lies l a)).map (nmAt l)
theorem lvTo_succ {l:List Rg} {a:List Ar} {k:Nat} (h:k<(zAz l).length):lvTo l a (k+1)=lvTo l a k++if lies l a (zAz l)[k] then [nmAt l (zAz l)[k]] else []:=by
 unfold lvTo;rw [List.take_succ_eq_append_getElem h,List.filter_append,List.map_append]
 congr 1
 cases hl:lies l a (zAz l)[k]<;>simp [hl]
theorem lvTo_le (l:List Rg) (a:List Ar) (k:Nat):(lvTo l a k).length≤k:=by
 unfold lvTo;rw [List.length_map];refine Nat.le_trans (List.length_filter_le _ _) ?_
 rw [List.length_take];omega
def LvRel (W:World) (l:List Rg) (a:List Ar) (m:Nat) (out i:Value) (wr:World):Prop :=
 ∃ k:Nat,k+m=(zAz l).length∧i = .int .i64 k∧zAQ encS 1 wr W.heap.size 9 out (lvTo l a k)∧Below W.heap.size W wr
theorem Leaves_c (A A2:Option Addr) (c c2:Nat) (l:List Rg) (a:List Ar) (w:World) (h:Rgs w A l) (h2:Ars w A2 a) (hz:∀ i (h:i<l.length),(l[i]).nm.size≤9223372036854775807) :
  Calls Tryz.prog 20 #[.slice A l.length c,.slice A2 a.length c2] w (GivesS2 (leavesS l a) w):=by
 have hwb:Below w.heap.size w (w.alloc (.cells #[.slice A2 a.length c2] 50)):=(Below.refl _ _).alloc (Nat.le_refl _) _
 have hsl:SlA (w.alloc (.cells #[.slice A2 a.length c2] 50)) (some ⟨w.heap.size,0,none⟩) [a] :=
  ⟨w.heap.size,0,rfl,zd,fun i hi=>by
   have:i=0:=by simp at hi;omega
   subst this;exact ⟨A2,c2,by rw [cell_of_row _ w.heap.size _ _ _ _ (heap_alloc_new _ _)];rfl,h2.below hwb⟩⟩
 generalize hres:leavesS l a=res;have HR:=zq hres;clear hres
 go_enter Tryz.func20,Tryz.ntmps20
 go_wp2_with fail
 refine (areas_c A (some ⟨w.heap.size,0,none⟩) c 1 l [a] _ (h.below hwb) hz hsl zd).mono ?_
 rintro e w1 ⟨hb1,⟨hf,rfl⟩ | ⟨hr,hc,r1,r2,g1,g2,AL,cL,O,co,vs,rfl,hwr,hvl,hrd,hsets⟩⟩
 ·have hw1:Below w.heap.size w w1:=zAb hwb hb1
  have hrs:res=([],areasF l [a]):=by
   rw [←HR.o,leavesS];rw [areasF_1] at hf ⊢
   by_cases hq:chkR l=0
   ·rw [if_neg (by simp [hq])] at hf
    simp [hq,hf]
   ·simp [hq]
  have HS:=zq hrs;generalize areasF l [a]=f at *;have hfb:(f != 0)=true:=by simpa using hf
  have HB:=zq (hw1.alloc hw1.size (.cells #[zAm,.map none,zAm,.map none,zAm,zAm] 108));clear hrs hf hb1 hw1 hwb hsl h h2;unfold zw;go_wp2;go_ret2
  exact GivesS2.err HS.o HB.o
 ·have hw1:Below w.heap.size w w1:=zAb hwb hb1
  have g:=good_of hr;have hn:=g.len;have ha0:chkA l a=0:=hc 0 zd
  have hrs:res=(zCv l a,0):=by
   rw [←HR.o,leavesS];simp [hr,ha0]
  have HS:=zq hrs;clear hrs hb1 hwb hsl h h2 hc ha0 hr
  obtain ⟨v0,hv0⟩:∃ v0,vs=[v0]:=by
   match vs,hvl with
   | [v0],_=>exact ⟨v0,rfl⟩
  subst hv0;obtain ⟨a',ha',gi,ci,rfl,hgi⟩:=hsets 0 v0 rfl;have:a'=a:=by simpa using ha'.symm
  subst this;obtain ⟨bo,oo,rfl,hbo,hco⟩:=hrd.at_ zd;have hco0:w1.cell? ⟨bo,oo,none⟩=some (.slice (some ⟨gi,0,none⟩) (inL l a').length ci):=hco 0 zd;clear hco hsets hvl ha' hrd;unfold wv;go_wp2;have hgl:(zCi l (fun i=>!zAF l i) l.length).length=(zAz l).length:=by rw [gath_len l a',inL,List.length_map]
  have hil:(zAz l).length≤200:=Nat.le_trans (leafTo_le l l.length) hn;rw [hgl];have HGL:=zq hgl;clear hgl;generalize hW:w1.alloc (.cells #[.slice A l.length c,.map (some r1),.slice AL (zAz l).length cL,.map (some r2),.slice (some ⟨g1,0,none⟩) l.length l.length,.slice (some ⟨g2,0,none⟩) l.length l.length] 108)=W;have hWb:Below w1.heap.size w1 W:=yi;have HLV:=zq (hwr.lv.below hWb);have hgW:gi<W.heap.size:=Nat.lt_of_lt_of_le (zAg hgi) hWb.size;have HGI:=zq ((hWb.block _ (zAg hgi)).trans hgi);have hboW:bo<W.heap.size:=Nat.lt_of_lt_of_le hbo hWb.size;have hcoW:=(hWb.cell hbo).trans hco0;have HWb:=zq (zAb hw1 hWb);clear hW hWb hwr hgi hbo hco0 hw1;obtain ⟨s6,hs6⟩:∃ s6,s6=w1.heap.size:=⟨_,rfl⟩;rw [←hs6];clear hs6;clear w1;have hinl:(inL l a').length=(zAz l).length:=by rw [inL,List.length_map]
  rw [hinl] at hcoW;have HIN:=zq hinl;clear hinl
  go_loopg [9,26] (zAz l).length (LvRel W l a')
  case atStart=>exact ⟨0,za,rfl,zAQ.nil _ _ _ _ _,Below.refl _ _⟩
  case round =>
   obtain ⟨k,hk,rfl,hown,hbel⟩:=hrel;have HK:=zq hk;have hk1:k≤(zAz l).length:=za;clear hk
   by_cases hlt:k<(zAz l).length
   ·have hltG:k<(zCi l (fun i=>!zAF l i) l.length).length:=by rw [HGL.o];exact hlt
    obtain ⟨b,o,rfl,hb,hc⟩:=HLV.o.at_ za;have hyl:=leafIdx_lt hlt
    have hc0:wr.cell? ⟨b,o+k,none⟩=some (.string (nmAt l (zAz l)[k])):=by
     rw [hbel.cell hb,hc k hltG,gath_get l hltG hlt]
    have hbr:b<wr.heap.size:=Nat.lt_of_lt_of_le hb hbel.size;have hcor:=(hbel.cell hboW).trans hcoW;have hbor:bo<wr.heap.size:=Nat.lt_of_lt_of_le hboW hbel.size;have hgr:gi<wr.heap.size:=Nat.lt_of_lt_of_le hgW hbel.size
    have hcs:wr.cell? ⟨gi,k,none⟩=some (.bool (lies l a' (zAz l)[k])):=by
     rw [hbel.cell hgW,cell_of_row _ gi k _ _ _ HGI.o,zCZ _ _ (by rw [HIN.o];exact hlt)]
     simp [inL,hlt]
    have hle:=lvTo_le l a' k;have hwr:W.heap.size≤wr.heap.size:=hbel.size;have HSU:=zq (lvTo_succ (a:=a') hlt);clear hc;generalize hx:nmAt l (zAz l)[k]=nm at *
    cases hq:lies l a' (zAz l)[k] with
    | false =>
     rw [hq] at hcs;have HQ:=zq hq;have HO:=zq hown;have HB:=zq hbel;clear hq hown hbel hx;go_wp2
     go_roundg (gk - 1)
     case measure=>have:=HK.o;omega
     case rel=>exact ⟨k+1,zh,zi,by rw [HSU.o,HQ.o];simpa using HO.o,HB.o⟩
    | true =>
     rw [hq] at hcs;have HQ:=zq hq;clear hq hx
     go_wp2_with (at_builtin;refine zDB _ _ _ elStr rfl rfl W.heap.size _ (lvTo l a' k) rfl (hown.alloc _) wr.heap.size 1 nm rfl (heap_alloc_new _ _) rfl zt zk za ze ?_;intro v1 w2 hown2 hg2 hb2)
     have HO:=zq hown2;have HB:=zq ((hbel.alloc hwr _).trans hb2);clear hown hbel hown2 hg2 hb2;go_wp2
     go_roundg (gk - 1)
     case measure=>have:=HK.o;omega
     case rel=>exact ⟨k+1,zh,zi,by rw [HSU.o,HQ.o];simpa using HO.o,HB.o⟩
   ·have hke:k=(zAz l).length:=by omega
    have e:lvTo l a' k=zCv l a':=by rw [hke,lvTo,List.take_length];rfl
    rw [e] at hown;obtain ⟨A',c',rfl,hrd⟩:=hown.rd1;have HB:=zq (zAb HWb.o hbel);have HD:=zq hrd;clear e hown hrd hbel hke;go_wp2;go_ret2
    exact GivesS2.ok HS.o HD.o HB.o
def sa:ByteArray:=⟨#[97]⟩
theorem leaves_awake:leavesS [⟨sa,emp⟩] [⟨sa,false⟩]=([sa],0):=qi
theorem awake_c (w:World):Calls Tryz.prog 10 #[] w (zAe (.bool true) w):=by
 have hb1:Below w.heap.size w (w.alloc (.cells #[.string ⟨#[97]⟩,.string ⟨#[]⟩] 72)):=(Below.refl _ _).alloc (Nat.le_refl _) _;have hb2:Below w.heap.size w ((w.alloc (.cells #[.string ⟨#[97]⟩,.string ⟨#[]⟩] 72)).alloc (.cells #[.string ⟨#[97]⟩,.bool false] 74)):=hb1.alloc hb1.size _
 have hr:Rgs ((w.alloc (.cells #[.string ⟨#[97]⟩,.string ⟨#[]⟩] 72)).alloc (.cells #[.string ⟨#[97]⟩,.bool false] 74)) (some ⟨w.heap.size,0,none⟩) [⟨sa,emp⟩]:=fun _ =>
  ⟨w.heap.size,0,rfl,fun i hi=>by
   have:i=0:=by simp at hi;omega
   subst this
   constructor
   ·rw [cell_of_row _ w.heap.size _ _ _ _ (zBd (heap_alloc_new _ _))];rfl
   ·rw [cell_of_row _ w.heap.size _ _ _ _ (zBd (heap_alloc_new _ _))];rfl⟩
 have ha:Ars ((w.alloc (.cells #[.string ⟨#[97]⟩,.string ⟨#[]⟩] 72)).alloc (.cells #[.string ⟨#[97]⟩,.bool false] 74)) (some ⟨w.heap.size+1,0,none⟩) [⟨sa,false⟩]:=fun _ =>
  ⟨w.heap.size+1,0,rfl,fun i hi=>by
   have:i=0:=by simp at hi;omega
   subst this;have hn:=heap_alloc_new (w.alloc (.cells #[.string ⟨#[97]⟩,.string ⟨#[]⟩] 72)) (.cells #[.string ⟨#[97]⟩,.bool false] 74);rw [show (w.alloc (.cells #[.string ⟨#[97]⟩,.string ⟨#[]⟩] 72)).heap.size=w.heap.size+1 by simp] at hn
   constructor
   ·rw [cell_of_row _ (w.heap.size+1) _ _ _ _ hn];rfl
   ·rw [cell_of_row _ (w.heap.size+1) _ _ _ _ hn];rfl⟩
 have hl:=Leaves_c (some ⟨w.heap.size,0,none⟩) (some ⟨w.heap.size+1,0,none⟩) 1 1 [⟨sa,emp⟩] [⟨sa,false⟩] _ hr ha (fun i hi=>by
  have:i=0:=by simp at hi;omega
  subst this
  show (sa.size:Nat)≤9223372036854775807
  decide)
 rw [leaves_awake] at hl
 go_enter Tryz.func10,Tryz.ntmps10
 go_wp2_with fail
 refine hl.mono ?_
 rintro e w1 ⟨A1,c1,rfl,hx,hb⟩;have HB:=zq (hb2.trans (hb.mono hb2.size));obtain ⟨b,o,rfl,hbl,hc⟩:=hx.at_ zd;have hc0:w1.cell? ⟨b,o,none⟩=some (.string ⟨#[97]⟩):=hc 0 zd;clear hl hr ha hb1 hb2 hb hx hc;go_wp2;go_ret
 exact zAe.mk rfl HB.o
end Go.Proofs.YtieoifkdobcpiaaGreatDoor
