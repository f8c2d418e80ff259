/- Parts of the proof, joined: Package right: Changes; slices.Contains over ints. Package right (plac. -/
import Derived.Test.YtieoifkdobcpiaaGreatDoorSg39
set_option maxRecDepth 100000
set_option maxHeartbeats 8000000
namespace Go.Proofs.YtieoifkdobcpiaaGreatDoor
open Go.RowKit Dw
def IntsR (w:World) (A:Option Addr) (l:List Int):Prop:=0<l.length→∃ g,A=some ⟨g,0,none⟩∧∀ j (h:j<l.length),w.cell? ⟨g,j,none⟩=some (.int .i64 l[j])
theorem IntsR.own {w:World} {B:Nat} {v:Value} {l:List Int} (h:zAE encI 1 w B 3 v l):∃ A c,v = .slice A l.length c∧IntsR w A l:=by
 by_cases h0:0<l.length
 ·obtain ⟨g,cap,rfl⟩:=own_some h h0
  exact ⟨_,cap,rfl,fun _=>⟨g,rfl,fun j hj=>by
   rw [dE (xs:=l.flatMap encI) h j za,flat1 (f:=fun z:Int=>Value.int .i64 z),List.getElem?_map,List.getElem?_eq_getElem hj];rfl⟩⟩
 ·obtain ⟨A,c,hv,_⟩:=h.rdk
  exact ⟨A,c,hv,fun h=>absurd h h0⟩
def posI (l:List Int) (s:Int):Int:=match l.findIdx? fun x=>decide (x=s) with
 | some i=>i
 | none=>-1
def memI2 (l:List Int) (s:Int):Bool:=l.any fun x=>decide (x=s)
theorem posI_mem (l:List Int) (s:Int):decide ((0:Int)≤posI l s)=memI2 l s:=by
 unfold posI memI2
 cases h:l.findIdx? fun x=>decide (x=s) with
 | none =>
  have:(l.any fun x=>decide (x=s))=false:=by
   rw [List.any_eq_false];intro x hx;have:=List.findIdx?_eq_none_iff.1 h x hx
   simpa using this
  rw [this];rfl
 | some i =>
  obtain ⟨hi,hp,_⟩:=List.findIdx?_eq_some_iff_getElem.1 h;have:(l.any fun x=>decide (x=s))=true:=List.any_eq_true.2 ⟨l[i],aJ hi,hp⟩
  rw [this];simp
theorem memI2_true {l:List Int} {s:Int}:memI2 l s=true↔s∈l:=by
 unfold memI2;rw [eF];exact ⟨fun ⟨x,hx,e⟩=>by rw [←eT e];exact hx,fun h=>⟨s,h,cM rfl⟩⟩
def PosI2Rel (w:World) (l:List Int) (s:Int) (m:Nat) (i:Value) (wr:World):Prop :=
 w=wr∧∃ k:Nat,k+m=l.length∧i = .int .i64 k∧∀ j (h:j<l.length),j<k→l[j]≠s
theorem indexI_c (A:Option Addr) (c:Nat) (l:List Int) (s:Int) (w:World) (hn:l.length≤1000000) (h:IntsR w A l) :
  Calls Tryz.prog 28 #[.slice A l.length c,.int .i64 s] w (zAZ (.int .i64 (posI l s)) w):=by
 generalize hres:posI l s=res;have HR:=zq hres;clear hres
 go_enter Tryz.func28,Tryz.ntmps28
 go_wp2
 go_loopg [8] l.length (PosI2Rel w l s)
 case atStart=>exact ⟨rfl,0,za,rfl,fun j _ hj=>absurd hj za⟩
 case round =>
  obtain ⟨hw,k,hk,rfl,hpre⟩:=hrel;subst hw;have HK:=zq hk;have HP:=zq hpre;have hk1:k≤l.length:=za;clear hk hpre
  by_cases hlt:k<l.length
  ·obtain ⟨b,rfl,hc⟩:=h za
   have hc0:=hc k hlt;clear hc
   by_cases hq:s=l[k]
   ·have hqb:(s == l[k])=true:=by simpa using hq
    have HQ:=zq hq;clear hq;go_wp2;go_ret
    refine zAZ.mk (zAX ?_) rfl
    rw [←HR.o];unfold posI;rw [List.findIdx?_eq_some_iff_getElem.2 ⟨hlt,by simp [HQ.o],fun j hj=>by simpa using HP.o j za hj⟩]
   ·have hqb:(s == l[k])=false:=by simpa using hq
    have HQ:=zq hq;clear hq;go_wp2
    go_roundg (gk - 1)
    case measure=>have:=HK.o;omega
    case rel =>
     refine ⟨rfl,k+1,zh,zi,fun j hj hjk=>?_⟩
     rcases bQ j k with h1 | h1
     ·exact HP.o j hj h1
     ·obtain rfl:j=k:=by omega
      exact fun e=>HQ.o e.symm
  ·go_wp2
   go_ret
   refine zAZ.mk (zAX ?_) rfl
   rw [←HR.o];unfold posI
   rw [List.findIdx?_eq_none_iff.2 fun x hx=>by
    obtain ⟨j,hj,rfl⟩:=dH hx
    simpa using HP.o j hj za]
theorem containsI_c (A:Option Addr) (c:Nat) (l:List Int) (s:Int) (w:World) (hn:l.length≤1000000) (h:IntsR w A l) :
  Calls Tryz.prog 9 #[.slice A l.length c,.int .i64 s] w (zAZ (.bool (memI2 l s)) w):=by
 have hm:=posI_mem l s;generalize memI2 l s=res at *;have HM:=zq hm;clear hm
 go_enter Tryz.func9,Tryz.ntmps9
 go_wp2_with (go_at_call 28;refine (indexI_c _ _ _ _ _ hn h).mono ?_;rintro e w' ⟨rfl,rfl⟩)
 go_ret
 exact zAZ.mk (zAQ HM.o) rfl
def GivesCg (rs:List Rg) (us:List BA) (ds:List De) (th:BA) (w:World) (e:Ending) (w':World):Prop :=
 ∃ (A:Option Addr) (c:Nat) (l:List Int) (f:Int),e = .returned (.tuple #[.slice A l.length c,.int .i64 f])∧IntsR w' A l∧Below w.heap.size w w'∧l.length≤402 ∧
  ((zBt rs us ds≠0∧f=zBt rs us ds∧l=[])∨(zBt rs us ds=0∧zAT th=false∧f=5∧l=[]) ∨
   (zBt rs us ds=0∧zAT th=true∧f=0∧l.Pairwise (· < ·)∧∀ x,x∈l↔ToldP rs us ds th x))
theorem IntsR.nil (w:World):IntsR w none []:=fun h=>absurd h zd
structure TakP (P:Int→Prop) (E acc:List Int) (j:Nat):Prop where
 sub:acc.Sublist (E.take j)
 iff:∀ x∈E.take j,x∈acc↔P x
theorem TakP.zero {P:Int→Prop} {E:List Int}:TakP P E [] 0:=⟨zd,fun x hx=>by simp at hx⟩
theorem TakP.yes {P:Int→Prop} {E acc:List Int} {j:Nat} (h:TakP P E acc j) (hj:j<E.length) (hp:P E[j]):TakP P E (acc++[E[j]]) (j+1):=by
 refine ⟨by rw [bF hj];exact List.Sublist.append h.sub (List.Sublist.refl _),fun x hx=>?_⟩
 rw [bF hj,List.mem_append,eK] at hx;rw [List.mem_append,eK]
 rcases hx with hx | rfl
 ·constructor
  ·rintro (h1 | rfl)
   ·exact (h.iff x hx).1 h1
   ·exact hp
  ·exact fun h1=>.inl ((h.iff x hx).2 h1)
 ·exact ⟨fun _=>hp,fun _=>.inr rfl⟩
theorem TakP.no {P:Int→Prop} {E acc:List Int} {j:Nat} (h:TakP P E acc j) (hj:j<E.length) (hp:¬ P E[j]):TakP P E acc (j+1):=by
 refine ⟨by rw [bF hj];exact h.sub.trans (List.sublist_append_left _ _),fun x hx=>?_⟩
 rw [bF hj,List.mem_append,eK] at hx
 rcases hx with hx | rfl
 ·exact h.iff x hx
 ·exact ⟨fun h1=>(h.iff _ (h.sub.subset h1)).1 h1,fun h1=>absurd h1 hp⟩
theorem TakP.all {P:Int→Prop} {E acc:List Int} (h:TakP P E acc E.length) (hs:E.Pairwise (· < ·)) (hc:∀ x,P x→x∈E):acc.Pairwise (· < ·)∧acc.length≤E.length∧∀ x,x∈acc↔P x:=by
 have h1:=h.sub;have h2:=h.iff;rw [bO] at h1 h2;exact ⟨hs.sublist h1,h1.length_le,fun x=>⟨fun hx=>(h2 x (h1.subset hx)).1 hx,fun hx=>(h2 x (hc x hx)).2 hx⟩⟩
def CnR (W:World) (E:List Int) (P:Int→Prop) (m:Nat) (ov iv:Value) (wr:World):Prop :=
 ∃ (j:Nat) (v:Value) (acc:List Int),v=ov∧j+m=E.length∧iv = .int .i64 (j:Nat)∧TakP P E acc j∧zAE encI 1 wr W.heap.size 3 v acc∧Below W.heap.size W wr
theorem Changes_c (RA:Option Addr) (rc:Nat) (rs:List Rg) (UA:Option Addr) (uc:Nat) (us:List BA) (DA:Option Addr) (dc:Nat) (ds:List De) (th:BA) (w:World)
  (hr:Rgs w RA rs) (hu:Strs w UA us) (hd:Des w DA ds) (hz:∀ i (h:i<rs.length),(rs[i]).nm.size≤9223372036854775807) (hz2:∀ i (h:i<us.length),(us[i]).size≤9223372036854775807) (hdc:ds.length≤dc)
  (hth:th.size≤9223372036854775807) :
  Calls Tryz.prog 8 #[.agg (tiC RA rc rs UA uc us DA dc ds),.string th] w (GivesCg rs us ds th w):=by
 have HX:Hid (Bx (w.alloc (.cells (tiC RA rc rs UA uc us DA dc ds) 26)) w.heap.size (tiC RA rc rs UA uc us DA dc ds) 26):=Bx.new _ _ _;have HB:Hid (Below w.heap.size w (w.alloc (.cells (tiC RA rc rs UA uc us DA dc ds) 26))):=(aN _ _).alloc (aC _) _;obtain ⟨W,hW⟩:∃ W,W=w.alloc (.cells (tiC RA rc rs UA uc us DA dc ds) 26):=⟨_,rfl⟩;rw [←hW] at HX HB;have hba:Below W.heap.size W (W.alloc (.cells #[.string th] 9)):=(aN _ _).alloc (aC _) _;have hbb:Below w.heap.size w (W.alloc (.cells #[.string th] 9)):=zAa HB.o hba;have HX1:=zq (HX.o.below hba)
 have HOP:Hid (Calls Tryz.prog 24 #[.agg (tiC RA rc rs UA uc us DA dc ds),.slice (some ⟨W.heap.size,0,none⟩) 1 1] (W.alloc (.cells #[.string th] 9)) (GivesOp (zCA rs us ds [th]) RA rc rs UA uc us DA dc ds (W.alloc (.cells #[.string th] 9)))) :=
  open_c RA rc rs UA uc us DA dc ds (some ⟨W.heap.size,0,none⟩) 1 [th] _ (hr.below hbb) (hu.below hbb) (hd.below hbb) hz hz2 (strs1 W th) (fun i h=>by
   match i,h with
   | 0,_=>exact hth) zd hdc
 have HBB:=zq hbb;have HDw:=zq hd;have HUw:=zq hu;clear hr hu hd hba hbb
 go_enter Tryz.func8,Tryz.ntmps8
 go_upto_region 1 with fail
 rw [←hW];clear hW
 iterate 2 go_step
 refine eW _ _ zj w.heap.size 0 zj (tiC RA rc rs UA uc us DA dc ds).toList _ (zDh HX.o) Tryz.underlying26 rfl zb ?_
 go_wp2_with fail
 with_reducible refine HOP.o.mono ?_
 rintro e w1 ⟨P,rfl,hb1,hp0,hp1⟩;have HB1:=zq (zAa HBB.o hb1);have HX2:=zq (HX1.o.below hb1);have HP0:=zq hp0;have HP1:=zq hp1;clear hb1 hp0 hp1 HOP HX HX1 HB HBB
 by_cases hc:zBt rs us ds=0
 case neg =>
  have hof:zCA rs us ds [th]=zBt rs us ds:=by unfold zCA;rw [aF hc]
  have hcb:(zBt rs us ds != 0)=true:=by simpa using hc
  have HCN:=zq hc;rw [hof];clear hc hof HP0 HP1;go_wp2;go_ret2
  exact ⟨none,0,[],_,rfl,IntsR.nil _,HB1.o,zd,.inl ⟨HCN.o,rfl,rfl⟩⟩
 cases hnm:zAT th with
 | false =>
  have hof:zCA rs us ds [th]=5:=by
   unfold zCA;rw [aD (show ¬ (zBt rs us ds≠0) by rw [hc];simp),aD]
   simpa using hnm
  have HCN:=zq hc;have HNN:=zq hnm;rw [hof];clear hc hof HP0 HP1 hnm;go_wp2;go_ret2
  exact ⟨none,0,[],_,rfl,IntsR.nil _,HB1.o,zd,.inr (.inl ⟨HCN.o,HNN.o,rfl,rfl⟩)⟩
 | true =>
  have hof:zCA rs us ds [th]=0:=by
   unfold zCA;rw [aD (show ¬ (zBt rs us ds≠0) by rw [hc];simp),aF]
   simpa using hnm
  have HC:=zq hc;have HNM:=zq hnm;rw [hof];obtain ⟨L,rfl,hlg⟩:=HP1.o hof;obtain ⟨hcr,hul,hdl⟩:=zBP HC.o;have hkd:∀ d∈ds,1≤d.kd∧d.kd≤5:=fun d hd=>(zBU HC.o d hd).kd
  have hnl:(zAm rs).length≤200:=cU (leafIdx_le rs) (good_of hcr).len;have HCL:=zq (classes_c RA rc rs UA uc us DA dc ds L th w1 hlg (HDw.o.below HB1.o) hdl hnl);have HLG:=zq hlg;have HKD:=zq hkd;clear hc hnm hof HP0 HP1 hlg hcr hkd hul
  go_wp2_with fail
  with_reducible refine HCL.o.mono ?_
  rintro e w2 ⟨v,H,rfl,hcls,hHn,hHlt,hcov,hb2⟩;have hHl:H.length≤200:=cU hHn hnl;have HB2:=zq (zAa HB1.o hb2);have HL2:=zq (HLG.o.below hb2);have HCS:=zq hcls;have HHL:=zq hHlt;have HCV:=zq hcov;have HED:=zq (edges_c RA rc rs UA uc us DA dc ds L th w2 (HLG.o.below hb2) (HDw.o.below HB2.o) hdl HKD.o);clear hb2 hcls hHlt hcov HCL HLG HKD HB1 HX2 hHn hnl;go_upto_region 6 with fail
  go_wp2_with fail
  with_reducible refine HED.o.mono ?_
  rintro e w3 ⟨E,g,cap,rfl,hEl,hEs,hEm,hEc,hb3⟩;have HB3:=zq (zAa HB2.o hb3);have HL3:=zq (HL2.o.below hb3);have HC3:=zq (HCS.o.below hb3);have HES:=zq hEs;have HEM:=zq hEm;have HEC:=zq hEc;clear hEs hEm hEc hb3 HED HCS HL2 HB2;have HD3:=zq (HDw.o.below HB3.o);have HU3:=zq (HUw.o.below HB3.o)
  go_wp2_with fail
  go_loopg [9,29] E.length (CnR w3 E (ToldP rs us ds th))
  case atStart=>exact ⟨0,_,[],rfl,za,rfl,TakP.zero,zAE.nil _ _ _ _ _,aN _ _⟩
  case round =>
   obtain ⟨j,ov,acc,rfl,hjm,rfl,htk,how,hb⟩:=hrel;have HJ:=zq hjm;have HTK:=zq htk;have HOW:=zq how;have HBR:=zq hb;have hal:acc.length≤402:=by have:=htk.sub.length_le;rw [bG] at this;omega
   clear hjm htk how hb
   by_cases hlt:j<E.length
   ·have ce:=zAs HBR.o (HEC.o j hlt)
    have HY:=zq (HTK.o.yes hlt);have HN:=zq (HTK.o.no hlt);obtain ⟨y,hy⟩:∃ y,y=E[j]:=⟨_,rfl⟩;have hym:y∈edL th ds ds.length:=by rw [hy];exact (HEM.o _).1 (aJ hlt)
    have HYM:=zq hym;rw [←hy] at HY HN ce;clear hy hym
    by_cases h1:1≤y
    case neg =>
     have HNT:=zq (HN.o fun h=>h1 h.1)
     have q1:decide (1≤y)=false:=cN h1;clear h1;go_wp2
     go_roundg (gk - 1)
     case measure=>have:=HJ.o;omega
     case rel=>exact ⟨j+1,_,acc,rfl,zt,zi,HNT.o,HOW.o,HBR.o⟩
    by_cases h2:y≤200000
    case neg =>
     have HNT:=zq (HN.o fun h=>h2 h.2.1)
     have q1:decide (1≤y)=true:=cM h1;have q2:decide (y≤200000)=false:=cN h2;clear h1 h2;go_wp2
     go_roundg (gk - 1)
     case measure=>have:=HJ.o;omega
     case rel=>exact ⟨j+1,_,acc,rfl,zt,zi,HNT.o,HOW.o,HBR.o⟩
    have HCH:=zq (changes_c RA rc rs UA uc us DA dc ds L th v H y wr (HL3.o.below HBR.o) (HU3.o.below HBR.o) (HD3.o.below HBR.o) HC.o (HC3.o.below HBR.o) HHL.o hHl hdc h1 h2);have q1:decide (1≤y)=true:=cM h1;have q2:decide (y≤200000)=true:=cM h2
    have HTI:Hid ((∃ h∈H,∃ u∈us,chgP rs ds (lfI rs h) u y th)↔ToldP rs us ds th y):=by
     constructor
     ·rintro ⟨h,hh,u,hu,hch⟩
      exact ⟨h1,h2,HYM.o,h,HHL.o h hh,u,hu,hch⟩
     ·rintro ⟨_,_,_,n,hn,u,hu,hch⟩
      obtain ⟨h,hh,e⟩:=HCV.o n hn;exact ⟨h,hh,u,hu,chg_sg e.symm hch⟩
    clear h1 h2
    go_wp2_with fail
    with_reducible refine HCH.o.mono ?_
    rintro e w5 ⟨b,rfl,hbi,hb5⟩;have HB5:=zq (zAa HBR.o hb5);have HO5:=zq (HOW.o.below hb5);have HBI:=zq (hbi.trans HTI.o);clear hbi hb5 HCH HTI HOW HBR ce q1 q2
    cases b with
    | false =>
     have HNT:=zq (HN.o fun h=>by have:=HBI.o.2 h;cases this)
     go_wp2
     go_roundg (gk - 1)
     case measure=>have:=HJ.o;omega
     case rel=>exact ⟨j+1,_,acc,rfl,zt,zi,HNT.o,HO5.o,HB5.o⟩
    | true =>
     have HYT:=zq (HY.o (HBI.o.1 rfl));have hw5:w3.heap.size≤w5.heap.size:=HB5.o.size
     go_wp2_with (at_builtin;refine zBX _ _ _ elInt rfl rfl w3.heap.size ov acc rfl (HO5.o.alloc _) w5.heap.size 1 y rfl (bZ _ _) rfl zx zm za ze ?_;intro v1 w4 hown4 hg4 hb4)
     have HO6:=zq hown4;have HB6:=zq ((HB5.o.alloc hw5 _).trans hb4);clear hown4 hg4 hb4;go_wp2
     go_roundg (gk - 1)
     case measure=>have:=HJ.o;omega
     case rel=>exact ⟨j+1,_,_,rfl,zt,zi,HYT.o,HO6.o,HB6.o⟩
   ·obtain rfl:j=E.length:=by have:=HJ.o;omega
    obtain ⟨A,c,rfl,hir⟩:=IntsR.own HOW.o;have HIR:=zq hir;obtain ⟨t1,t2,t3⟩:=HTK.o.all HES.o fun x hx=>(HEM.o x).2 hx.2.2.1
    have HT1:=zq t1;have HT3:=zq t3;clear t1 t3 hir;go_wp2;go_ret2
    exact ⟨A,c,acc,0,rfl,HIR.o,zAa HB3.o HBR.o,za,.inr (.inr ⟨HC.o,HNM.o,rfl,HT1.o,HT3.o⟩)⟩
abbrev encV:Value→List Value:=fun v=>[v]
theorem elSets:ElemT Tryz.prog 109 113 (.slice none 0 0) 1 24:=⟨Tryz.underlying109,zb,rfl,zc⟩
def SlA (w:World) (B:Option Addr) (aa:List (List Ar)):Prop :=
 ∃ b o:Nat,B=some ⟨b,o,none⟩∧b<w.heap.size∧∀ i (h:i<aa.length),∃ Ai ci,w.cell? ⟨b,o+i,none⟩=some (.slice Ai (aa[i]).length ci)∧Ars w Ai aa[i]
theorem SlA.below {w w':World} {B:Option Addr} {aa:List (List Ar)} (h:SlA w B aa) (hb:Below w.heap.size w w'):SlA w' B aa:=by
 obtain ⟨b,o,rfl,hlt,hc⟩:=h;refine ⟨b,o,rfl,cY hlt hb.size,fun i hi=>?_⟩
 obtain ⟨Ai,ci,h1,h2⟩:=hc i hi;exact ⟨Ai,ci,(hb.cell hlt).trans h1,h2.below hb⟩
def SetsOf (w:World) (l:List Rg) (aa:List (List Ar)) (vs:List Value):Prop :=
 ∀ (i:Nat) (v:Value),vs[i]?=some v→∃ a,aa[i]?=some a∧∃ gi ci,v = .slice (some ⟨gi,0,none⟩) (inL l a).length ci∧w.heap[gi]?=some (.cells (bArr (inL l a) (inL l a).length) 4 (0,0))
theorem SetsOf.keep {w w':World} {l:List Rg} {aa:List (List Ar)} {vs:List Value} (h:SetsOf w l aa vs) (hk:∀ (g:Nat) (cs:Array Value),w.heap[g]?=some (.cells cs 4 (0,0))→w'.heap[g]?=w.heap[g]?):SetsOf w' l aa vs:=fun i v hv=>by
 obtain ⟨a,ha,gi,ci,h1,h2⟩:=h i v hv;exact ⟨a,ha,gi,ci,h1,(hk _ _ h2).trans h2⟩
theorem SetsOf.below {w w':World} {l:List Rg} {aa:List (List Ar)} {vs:List Value} (h:SetsOf w l aa vs) (hb:Below w.heap.size w w'):SetsOf w' l aa vs :=
 h.keep fun _ _ hg=>hb.block _ (zAf hg)
theorem SetsOf.push {w:World} {l:List Rg} {aa:List (List Ar)} {vs:List Value} (h:SetsOf w l aa vs) {a:List Ar} {gi ci:Nat} (ha:aa[vs.length]?=some a) (hg:w.heap[gi]?=some (.cells (bArr (inL l a) (inL l a).length) 4 (0,0))) :
  SetsOf w l aa (vs++[.slice (some ⟨gi,0,none⟩) (inL l a).length ci]):=fun i v hv=>by
 rcases Nat.lt_trichotomy i vs.length with h1 | h1 | h1
 ·rw [List.getElem?_append_left h1] at hv
  exact h i v hv
 ·subst h1
  simp at hv
  exact ⟨a,ha,gi,ci,hv.symm,hg⟩
 ·rw [List.getElem?_append_right za,List.getElem?_eq_none ze] at hv
  cases hv
theorem six_cells {w:World} {s:Nat} {a0 a1 a2 a3 a4 a5:Value} {T:TypeId} (h:w.heap[s]?=some (.cells #[a0,a1,a2,a3,a4,a5] T (0,0))) :
  w.cell? ⟨s,0,none⟩=some a0∧w.cell? ⟨s,1,none⟩=some a1∧w.cell? ⟨s,2,none⟩=some a2∧w.cell? ⟨s,3,none⟩=some a3∧w.cell? ⟨s,4,none⟩=some a4∧w.cell? ⟨s,5,none⟩=some a5 :=
 ⟨by rw [aL w _ 0 _ _ _ h];rfl,by rw [aL w _ 1 _ _ _ h];rfl,by rw [aL w _ 2 _ _ _ h];rfl,by rw [aL w _ 3 _ _ _ h];rfl,by rw [aL w _ 4 _ _ _ h];rfl,by rw [aL w _ 5 _ _ _ h];rfl⟩
theorem six_free {w:World} {s:Nat} {cs:Array Value} {T:TypeId} (h:w.heap[s]?=some (.cells cs T (0,0))) :
  w.frozen? ⟨s,0,none⟩=false∧w.frozen? ⟨s,1,none⟩=false∧w.frozen? ⟨s,2,none⟩=false∧w.frozen? ⟨s,3,none⟩=false∧w.frozen? ⟨s,4,none⟩=false∧w.frozen? ⟨s,5,none⟩=false :=
 ⟨bV w _ 0 _ _ h,bV w _ 1 _ _ h,bV w _ 2 _ _ h,bV w _ 3 _ _ h,bV w _ 4 _ _ h,bV w _ 5 _ _ h⟩
theorem below6 {B:Nat} {w w':World} {s:Nat} (h:Below B w w') (hs:B≤s) (b0 b1 b2 b3 b4 b5:Value):Below B w ((((((w'.setCell ⟨s,0,none⟩ b0).setCell ⟨s,1,none⟩ b1).setCell ⟨s,2,none⟩ b2).setCell ⟨s,3,none⟩ b3).setCell ⟨s,4,none⟩ b4).setCell ⟨s,5,none⟩ b5) :=
 (((((h.setCell (p:=⟨s,0,none⟩) hs _).setCell (p:=⟨s,1,none⟩) hs _).setCell (p:=⟨s,2,none⟩) hs _).setCell (p:=⟨s,3,none⟩) hs _).setCell (p:=⟨s,4,none⟩) hs _).setCell (p:=⟨s,5,none⟩) hs _
theorem z6 {j:Nat} {v:Value} (h:(#[zAk,.map none,zAk,.map none,zAk,zAk]:Array Value)[j]?=some v):v=zAk∨v = .map none:=by
 match j,h with
 | 0,h=>simp at h;exact .inl h.symm
 | 1,h=>simp at h;exact .inr h.symm
 | 2,h=>simp at h;exact .inl h.symm
 | 3,h=>simp at h;exact .inr h.symm
 | 4,h=>simp at h;exact .inl h.symm
 | 5,h=>simp at h;exact .inl h.symm
 | j+6,h=>rw [Array.getElem?_eq_none zd] at h;cases h
theorem rd1_set0 {α:Type} {f:α→Value} {w w':World} {A:Option Addr} {L:List α} {s:Nat} {T:TypeId} (h:Rd1 f w A L) (hs:w.heap[s]?=some (.cells #[zAk,.map none,zAk,.map none,zAk,zAk] T (0,0))) (hk:∀ x,x≠s→w'.heap[x]?=w.heap[x]?) (hf:∀ x,f x≠zAk∧f x≠.map none):Rd1 f w' A L:=fun hl=>by
 obtain ⟨b,o,rfl,hc⟩:=h hl;refine ⟨b,o,rfl,fun i hi=>?_⟩
 have hne:b≠s:=fun e=>by
  subst e;have:=hc i hi;rw [aL w b _ _ _ _ hs] at this
  rcases z6 this with h1 | h1
  ·exact (hf _).1 h1
  ·exact (hf _).2 h1
 rw [World.cell?_of_block (hk _ hne)];exact hc i hi
theorem rd2_set0 {α:Type} {f f2:α→Value} {w w':World} {A:Option Addr} {L:List α} {s:Nat} {T:TypeId} (h:Rd2 f f2 w A L) (hs:w.heap[s]?=some (.cells #[zAk,.map none,zAk,.map none,zAk,zAk] T (0,0))) (hk:∀ x,x≠s→w'.heap[x]?=w.heap[x]?) (hf:∀ x,f x≠zAk∧f x≠.map none):Rd2 f f2 w' A L:=fun hl=>by
 obtain ⟨b,o,rfl,hc⟩:=h hl;refine ⟨b,o,rfl,fun i hi=>?_⟩
 have hne:b≠s:=fun e=>by
  subst e;have:=(hc i hi).1;rw [aL w b _ _ _ _ hs] at this
  rcases z6 this with h1 | h1
  ·exact (hf _).1 h1
  ·exact (hf _).2 h1
 rw [World.cell?_of_block (hk _ hne),World.cell?_of_block (hk _ hne)];exact hc i hi
theorem WR.set0 {w w':World} {A:Option Addr} {r1 r2 g1 g2:Nat} {AL:Option Addr} {l:List Rg} {s:Nat} (h:WR w A r1 r2 g1 g2 AL l) (hs:w.heap[s]?=some (.cells #[zAk,.map none,zAk,.map none,zAk,zAk] 108 (0,0))) (hk:∀ x,x≠s→w'.heap[x]?=w.heap[x]?) (hsz:w.heap.size≤w'.heap.size):WR w' A r1 r2 g1 g2 AL l:=by
 obtain ⟨cs,hcs⟩:=h.h3;have hg2:g2≠s:=zAA hcs hs zc;refine ⟨rd2_set0 h.rg hs hk (fun x=>zd),h.m1.keep (hk _ (zAg h.m1 hs).symm),rd1_set0 h.lv hs hk (fun x=>zd),h.m2.keep (hk _ (zAg h.m2 hs).symm),fun i hi=>?_,fun i hi=>?_,cY h.h1 hsz,cY h.h2 hsz,cs,(hk _ hg2).trans hcs⟩
 ·have hne:g1≠s:=fun e=>by
   subst e;have:=h.up i hi;rw [aL w g1 _ _ _ _ hs] at this
   rcases z6 this with h1 | h1<;>simp at h1
  rw [World.cell?_of_block (hk _ hne)];exact h.up i hi
 ·obtain ⟨Ai,ci,h1,h2⟩:=h.bl i hi
  exact ⟨Ai,ci,by rw [World.cell?_of_block (hk _ hg2)];exact h1,rd1_set0 h2 hs hk (fun x=>zd)⟩
theorem size6 (w:World) (s:Nat) (b0 b1 b2 b3 b4 b5:Value):w.heap.size≤((((((w.setCell ⟨s,0,none⟩ b0).setCell ⟨s,1,none⟩ b1).setCell ⟨s,2,none⟩ b2).setCell ⟨s,3,none⟩ b3).setCell ⟨s,4,none⟩ b4).setCell ⟨s,5,none⟩ b5).heap.size:=zd
theorem own_rd {w w':World} {base n c:Nat} {T:TypeId} {O:Option Addr} {vs:List Value} (h:zAE encV 1 w base T (.slice O n c) vs) (hk:∀ g,base≤g→w'.heap[g]?=w.heap[g]?):Rd1 id w' O vs:=by
 obtain ⟨O',c',e,hr⟩:=(own_keepB h fun g h1 _=>hk g h1).rd1
 injection e with e1
 subst e1;exact hr
def zw:Value:=.agg #[zAk,.map none,zAk,.map none,zAk,zAk]
def areasF (l:List Rg) (aa:List (List Ar)):Int:=if chkR l≠0 then chkR l else ((aa.map (chkA l)).find? fun f=>decide (f≠0)).getD 0
def GivesAs (A:Option Addr) (c:Nat) (l:List Rg) (aa:List (List Ar)) (w:World) (e:Ending) (w':World):Prop :=
 Below w.heap.size w w'∧((areasF l aa≠0∧e = .returned (.tuple #[zw,zAk,.int .i64 (areasF l aa)])) ∨
  (chkR l=0∧(∀ i (h:i<aa.length),chkA l aa[i]=0)∧∃ r1 r2 g1 g2 AL cL O co vs,e = .returned (.tuple #[wv A c r1 r2 g1 g2 AL cL l,.slice O aa.length co,.int .i64 0])∧WR w' A r1 r2 g1 g2 AL l ∧
   vs.length=aa.length∧Rd1 id w' O vs∧SetsOf w' l aa vs))
def ArRel (W:World) (l:List Rg) (aa:List (List Ar)) (m:Nat) (out i:Value) (wr:World):Prop :=
 ∃ (k:Nat) (vs:List Value),k+m=aa.length∧i = .int .i64 k∧vs.length=k∧(∀ j (h:j<aa.length),j<k→chkA l aa[j]=0)∧zAE encV 1 wr W.heap.size 113 out vs∧SetsOf wr l aa vs∧Below W.heap.size W wr
theorem areasF_R {l:List Rg} {aa:List (List Ar)} (h:chkR l≠0):areasF l aa=chkR l:=by rw [areasF,aF h]
theorem areasF_A {l:List Rg} {aa:List (List Ar)} (h:chkR l=0) {k:Nat} (hk:k<aa.length) (hpre:∀ j (h:j<aa.length),j<k→chkA l aa[j]=0) (hf:chkA l aa[k]≠0):areasF l aa=chkA l aa[k]:=by
 rw [areasF,aD (by simp [h])]
 have:(aa.map (chkA l)).find? (fun f=>decide (f≠0))=some (chkA l aa[k]):=by
  rw [List.find?_eq_some_iff_getElem];refine ⟨by simpa using hf,k,by simpa using hk,zd,fun j hj=>?_⟩
  simp [hpre j za hj]
 rw [this];rfl
theorem areas_c (A B:Option Addr) (c cb:Nat) (l:List Rg) (aa:List (List Ar)) (w:World) (h:Rgs w A l) (hz:∀ i (h:i<l.length),(l[i]).nm.size≤9223372036854775807) (h2:SlA w B aa) (hn2:aa.length≤2) :
  Calls Tryz.prog 50 #[.slice A l.length c,.slice B aa.length cb] w (GivesAs A c l aa w):=by
 have hwb:Below w.heap.size w (w.alloc (.cells #[zAk,.map none,zAk,.map none,zAk,zAk] 108)):=(aN _ _).alloc (aC _) _;have hblk:=bZ w (.cells #[zAk,.map none,zAk,.map none,zAk,zAk] 108);generalize hres:chkR l=res;have HR:=zq hres
 go_enter Tryz.func50,Tryz.ntmps50
 go_wp2_with fail
 refine (CheckRegions_c _ _ _ _ (h.below hwb) hz).mono ?_
 rintro e w1 ⟨rfl,hb1⟩;have hw1:Below w.heap.size w w1:=zAa hwb hb1;have hblk1:w1.heap[w.heap.size]?=some (.cells #[zAk,.map none,zAk,.map none,zAk,zAk] 108 (0,0)):=(hb1.block _ zd).trans hblk;have h1:=h.below hw1;have h21:=h2.below hw1;have HW1:=zq hw1;rw [hres];clear hwb hblk hb1 h h2 hw1
 by_cases hr:res=0
 ·subst hr
  have g:=good_of hres;clear hres
  go_wp2_with fail
  refine (newWorld_c A c l w1 g h1).mono ?_
  rintro e w2 ⟨r1,r2,g1,g2,AL,cL,rfl,hwr2,hb2⟩;unfold wv;have hblk2:w2.heap[w.heap.size]?=some (.cells #[zAk,.map none,zAk,.map none,zAk,zAk] 108 (0,0)):=(hb2.block _ (zAf hblk1)).trans hblk1;have hsl2:=h21.below hb2;have hwb2:Below w.heap.size w w2:=zAa HW1.o hb2;clear hb2 HW1 h1 h21 hblk1;go_wp2;generalize hW:w2.alloc (.cells #[.slice A l.length c,.map (some r1),.slice AL (zBW l (fun i=>!zAB l i) l.length).length cL,.map (some r2),.slice (some ⟨g1,0,none⟩) l.length l.length,.slice (some ⟨g2,0,none⟩) l.length l.length] 108)=W
  have hWr:=bZ w2 (.cells #[.slice A l.length c,.map (some r1),.slice AL (zBW l (fun i=>!zAB l i) l.length).length cL,.map (some r2),.slice (some ⟨g1,0,none⟩) l.length l.length,.slice (some ⟨g2,0,none⟩) l.length l.length] 108)
  have hWb:Below w2.heap.size w2 W:=yh;rw [hW] at hWr;have hw2W:w2.heap.size<W.heap.size:=zAf hWr;have hblkW:W.heap[w.heap.size]?=some (.cells #[zAk,.map none,zAk,.map none,zAk,zAk] 108 (0,0)):=(hWb.block _ (zAf hblk2)).trans hblk2;have hwW:w.heap.size<W.heap.size:=zAf hblkW;obtain ⟨s8,hs8⟩:∃ s8,s8=w2.heap.size:=⟨_,rfl⟩;rw [←hs8] at hWr hw2W ⊢;have HWR:=zq (hwr2.below hWb);have HSL:=zq (hsl2.below hWb);have HWb:=zq (hwb2.trans (hWb.mono hwb2.size));have HWr:=zq hWr;have HBk:=zq hblkW;clear hW hWr hWb hblkW hblk2 hwr2 hsl2 hwb2 hs8;clear w1 w2
  go_loopg [9,23] aa.length (ArRel W l aa)
  case atStart=>exact ⟨0,[],za,rfl,rfl,fun j _ hj=>absurd hj za,zAE.nil _ _ _ _ _,fun i v hv=>by simp at hv,aN _ _⟩
  case round =>
   obtain ⟨k,vs,hk,rfl,hvs,hpre,hown,hsets,hbel⟩:=hrel;have HK:=zq hk;have HP:=zq hpre;have HB:=zq hbel;have HV:=zq hvs;have hk1:k≤aa.length:=za;have hs8r:s8<wr.heap.size:=cY hw2W hbel.size;have hwr:w.heap.size<wr.heap.size:=cY hwW hbel.size;have hrow:wr.heap[s8]?=_:=(hbel.block _ hw2W).trans HWr.o;have hs0:wr.cell? ⟨s8,0,none⟩=some (.slice A l.length c):=by rw [aL _ s8 0 _ _ _ hrow];rfl
   have hs1:wr.cell? ⟨s8,1,none⟩=some (.map (some r1)):=by rw [aL _ s8 1 _ _ _ hrow];rfl
   have hs2:wr.cell? ⟨s8,2,none⟩=some (.slice AL (zBW l (fun i=>!zAB l i) l.length).length cL):=by rw [aL _ s8 2 _ _ _ hrow];rfl
   have hs3:wr.cell? ⟨s8,3,none⟩=some (.map (some r2)):=by rw [aL _ s8 3 _ _ _ hrow];rfl
   have hs4:wr.cell? ⟨s8,4,none⟩=some (.slice (some ⟨g1,0,none⟩) l.length l.length):=by rw [aL _ s8 4 _ _ _ hrow];rfl
   have hs5:wr.cell? ⟨s8,5,none⟩=some (.slice (some ⟨g2,0,none⟩) l.length l.length):=by rw [aL _ s8 5 _ _ _ hrow];rfl
   have HRow:=zq hrow;clear hk hpre hbel hvs hrow
   by_cases hlt:k<aa.length
   ·obtain ⟨b,o,rfl,hb,hc⟩:=HSL.o.below HB.o
    obtain ⟨Ai,ci,hci,hai⟩:=hc k hlt;have hwrr:=HWR.o.below HB.o;clear hc;generalize hak:chkA l aa[k]=fk;have HAK:=zq hak
    go_wp2_with fail
    refine (checkArea_c A Ai c r1 r2 g1 g2 AL cL ci l aa[k] wr g hwrr hai).mono ?_
    rintro e w3 ⟨rfl,hb3⟩;rw [hak]
    by_cases hf:fk=0
    ·subst hf
     have ga:=goodA_of hak;have hrow3:w3.heap[s8]?=_:=(hb3.block _ hs8r).trans HRow.o;obtain ⟨hs0',hs1',hs2',hs3',hs4',hs5'⟩:=six_cells hrow3;have hs8':s8<w3.heap.size:=zAf hrow3;have hwr3:=hwrr.below hb3;have hai3:=hai.below hb3;have hown3:=hown.below hb3;have hsets3:=hsets.below hb3;have hbel3:Below W.heap.size W w3:=zAa HB.o hb3;clear hs0 hs1 hs2 hs3 hs4 hs5 hrow3 hb3 hwrr hai hown hsets hak hci hb hwr
     go_wp2_with fail
     refine (in_c A Ai c r1 r2 g1 g2 AL cL ci l aa[k] w3 g ga hwr3 hai3).mono ?_
     rintro e w4 ⟨gi,cgi,rfl,hgi,hb4⟩;have hown4:=hown3.below hb4;have hsets4:=hsets3.below hb4;have hbel4:Below W.heap.size W w4:=zAa hbel3 hb4;have hWle:W.heap.size≤w4.heap.size:=hbel4.size;clear hown3 hsets3 hbel3 hb4 hs0' hs1' hs2' hs3' hs4' hs5' hwr3 hai3 hs8';have hvl:vs.length+1≤2:=by have:=HV.o;omega
     have HSP:=zq (SetsOf.push (ci:=cgi) hsets4 (a:=aa[k]) (gi:=gi) (by rw [HV.o];simp [hlt]) hgi)
     go_wp2_with (at_builtin;refine zBX _ _ _ elSets rfl rfl W.heap.size _ vs rfl (hown4.alloc _) w4.heap.size 1 (.slice (some ⟨gi,0,none⟩) (inL l aa[k]).length cgi) rfl (bZ _ _) rfl zx zm za ze ?_;intro v5 w5 hown5 hg5 hb5)
     have hkeep:∀ (g:Nat) (cs:Array Value),w4.heap[g]?=some (.cells cs 4 (0,0))→w5.heap[g]?=w4.heap[g]?:=fun g cs hg =>
      (hg5.block _ (zAf (zAW hg)) fun e2=>by
       obtain ⟨_,cs',hcs⟩:=zAR hown4 e2.symm;exact zAA hg hcs zc rfl).trans ((zAW hg).trans hg.symm)
     have HO5:=zq hown5;have HS5:=zq (HSP.o.keep hkeep);have HB5:=zq ((hbel4.alloc hWle _).trans hb5);clear hown4 hsets4 hbel4 hown5 hg5 hb5 hkeep hgi HSP;go_wp2
     go_roundg (gk - 1)
     case measure=>have:=HK.o;omega
     case rel =>
      refine ⟨k+1,_,zh,zi,by simp [HV.o],fun j hj hjk=>?_,HO5.o,HS5.o,HB5.o⟩
      rcases bQ j k with h1 | h1
      ·exact HP.o j hj h1
      ·obtain rfl:j=k:=by omega
       exact HAK.o
    ·have hfb:(fk != 0)=true:=by simpa using hf
     have hblk3:w3.heap[w.heap.size]?=_:=(hb3.block _ hwr).trans ((HB.o.block _ hwW).trans HBk.o);obtain ⟨hd0,hd1,hd2,hd3,hd4,hd5⟩:=six_cells hblk3;obtain ⟨hf0,hf1,hf2,hf3,hf4,hf5⟩:=six_free hblk3;have ha:areasF l aa=fk:=by rw [areasF_A HR.o hlt HP.o (by rw [hak];exact hf)];exact hak
     have HA:=zq ha;have HB3:=zq (HWb.o.trans ((zAa HB.o hb3).mono (Nat.le_of_lt hwW)));clear hblk3 hs0 hs1 hs2 hs3 hs4 hs5 hb3 hwrr hai hown hsets hak hci hb hwr ha;go_wp2;refine dL (v:=.tuple #[zw,zAk,.int .i64 fk]) ?_ rfl ?_
     ·simp [results,Tryz.results50,go_sem,zw,hd0,hd1,hd2,hd3,hd4,hd5]
     ·exact ⟨below6 HB3.o (aC _) _ _ _ _ _ _,.inl ⟨by rw [HA.o];exact hf,by rw [HA.o]⟩⟩
   ·have hke:k=aa.length:=by omega
    have HKE:=zq hke;have hblk3:wr.heap[w.heap.size]?=_:=(HB.o.block _ hwW).trans HBk.o;obtain ⟨hd0,hd1,hd2,hd3,hd4,hd5⟩:=six_cells hblk3;obtain ⟨hf0,hf1,hf2,hf3,hf4,hf5⟩:=six_free hblk3;have HO:=zq hown;have HS:=zq hsets;have HB3:=zq (HWb.o.trans (HB.o.mono (Nat.le_of_lt hwW)));obtain ⟨O,co,rfl,hrd⟩:=hown.rd1;have HD:=zq hrd;have HBL:=zq hblk3;clear hblk3 hown hsets hke hrd;go_wp2;refine dL (v:=.tuple #[wv A c r1 r2 g1 g2 AL cL l,.slice O aa.length co,.int .i64 0]) ?_ rfl ?_
    ·have e:vs.length=aa.length:=by rw [HV.o,HKE.o]
     simp [results,Tryz.results50,go_sem,wv,hd0,hd1,hd2,hd3,hd4,hd5,e]
    ·refine ⟨below6 HB3.o (aC _) _ _ _ _ _ _,.inr ⟨HR.o,fun i hi=>HP.o i hi (by rw [HKE.o];exact hi),r1,r2,g1,g2,AL,cL,O,co,vs,rfl,?_,by rw [HV.o,HKE.o],?_,?_⟩⟩
     ·exact (HWR.o.below HB.o).set0 HBL.o (setCells6 _ _ _ _ _ _) (size6 _ _ _ _ _ _ _ _)
     ·exact own_rd HO.o fun g hg=>setCells6 _ _ _ _ _ _ _ (Nat.ne_of_gt (cY hwW hg))
     ·exact HS.o.keep fun g cs hg=>setCells6 _ _ _ _ _ _ _ (fun e=>by rw [e,HBL.o] at hg;injection hg with hg;injection hg with _ hg;exact absurd hg zc)
 ·have hrb:(res != 0)=true:=by simpa using hr
  have hd0:w1.cell? ⟨w.heap.size,0,none⟩=some zAk:=by rw [aL w1 _ 0 _ _ _ hblk1];rfl
  have hd1:w1.cell? ⟨w.heap.size,1,none⟩=some (.map none):=by rw [aL w1 _ 1 _ _ _ hblk1];rfl
  have hd2:w1.cell? ⟨w.heap.size,2,none⟩=some zAk:=by rw [aL w1 _ 2 _ _ _ hblk1];rfl
  have hd3:w1.cell? ⟨w.heap.size,3,none⟩=some (.map none):=by rw [aL w1 _ 3 _ _ _ hblk1];rfl
  have hd4:w1.cell? ⟨w.heap.size,4,none⟩=some zAk:=by rw [aL w1 _ 4 _ _ _ hblk1];rfl
  have hd5:w1.cell? ⟨w.heap.size,5,none⟩=some zAk:=by rw [aL w1 _ 5 _ _ _ hblk1];rfl
  have hf0:=bV w1 _ 0 _ _ hblk1;have hf1:=bV w1 _ 1 _ _ hblk1;have hf2:=bV w1 _ 2 _ _ hblk1;have hf3:=bV w1 _ 3 _ _ hblk1;have hf4:=bV w1 _ 4 _ _ hblk1;have hf5:=bV w1 _ 5 _ _ hblk1;clear hblk1 hres;go_wp2;refine dL (v:=.tuple #[zw,zAk,.int .i64 res]) ?_ rfl ?_
  ·simp [results,Tryz.results50,go_sem,zw,hd0,hd1,hd2,hd3,hd4,hd5]
  ·have ha:areasF l aa=res:=by rw [areasF_R (by rw [HR.o];exact hr)];exact HR.o
   refine ⟨(((((HW1.o.setCell (p:=⟨w.heap.size,0,none⟩) (aC _) _).setCell (p:=⟨w.heap.size,1,none⟩) (aC _) _).setCell (p:=⟨w.heap.size,2,none⟩) (aC _) _).setCell (p:=⟨w.heap.size,3,none⟩) (aC _) _).setCell (p:=⟨w.heap.size,4,none⟩) (aC _) _).setCell (p:=⟨w.heap.size,5,none⟩) (aC _) _,.inl ⟨by rw [ha];exact hr,by rw [ha]⟩⟩
def GivesS2 (r:List BA×Int) (w:World) (e:Ending) (w':World):Prop :=
 ∃ A c,e = .returned (.tuple #[.slice A r.1.length c,.int .i64 r.2])∧Strs w' A r.1∧Below w.heap.size w w'
theorem GivesS2.err {r:List BA×Int} {w w':World} {f:Int} (hr:r=([],f)) (hw:Below w.heap.size w w'):GivesS2 r w (.returned (.tuple #[.slice none 0 0,.int .i64 f])) w':=by
 subst hr;exact ⟨none,0,rfl,Rd1.nil,hw⟩
theorem GivesS2.ok {r:List BA×Int} {l:List BA} {w w':World} {f:Int} {A:Option Addr} {c:Nat} (hr:r=(l,f)) (hl:Strs w' A l) (hw:Below w.heap.size w w'):GivesS2 r w (.returned (.tuple #[.slice A l.length c,.int .i64 f])) w':=by
 subst hr;exact ⟨A,c,rfl,hl,hw⟩
theorem areasF_1 (l:List Rg) (a:List Ar):areasF l [a]=if chkR l≠0 then chkR l else chkA l a:=by
 unfold areasF
 by_cases h:chkR l=0
 ·by_cases h2:chkA l a=0
  ·simp [h,h2]
  ·simp [h,h2]
 ·simp [h]
def lvTo (l:List Rg) (a:List Ar) (k:Nat):List BA:=(((zAm l).take k).filter (lies l a)).map (nmAt l)
theorem lvTo_succ {l:List Rg} {a:List Ar} {k:Nat} (h:k<(zAm l).length):lvTo l a (k+1)=lvTo l a k++if lies l a (zAm l)[k] then [nmAt l (zAm l)[k]] else []:=by
 unfold lvTo;rw [bF h,dJ,eE]
 congr 1
 cases hl:lies l a (zAm l)[k]<;>simp [hl]
theorem lvTo_le (l:List Rg) (a:List Ar) (k:Nat):(lvTo l a k).length≤k:=by
 unfold lvTo;rw [cW];refine cU (dK _ _) ?_
 rw [bG];omega
def LvRel (W:World) (l:List Rg) (a:List Ar) (m:Nat) (out i:Value) (wr:World):Prop :=
 ∃ k:Nat,k+m=(zAm l).length∧i = .int .i64 k∧zAE encS 1 wr W.heap.size 9 out (lvTo l a k)∧Below W.heap.size W wr
theorem Leaves_c (A A2:Option Addr) (c c2:Nat) (l:List Rg) (a:List Ar) (w:World) (h:Rgs w A l) (h2:Ars w A2 a) (hz:∀ i (h:i<l.length),(l[i]).nm.size≤9223372036854775807) :
  Calls Tryz.prog 20 #[.slice A l.length c,.slice A2 a.length c2] w (GivesS2 (leavesS l a) w):=by
 have hwb:Below w.heap.size w (w.alloc (.cells #[.slice A2 a.length c2] 50)):=(aN _ _).alloc (aC _) _
 have hsl:SlA (w.alloc (.cells #[.slice A2 a.length c2] 50)) (some ⟨w.heap.size,0,none⟩) [a] :=
  ⟨w.heap.size,0,rfl,zd,fun i hi=>by
   have:i=0:=by simp at hi;omega
   subst this;exact ⟨A2,c2,by rw [aL _ w.heap.size _ _ _ _ (bZ _ _)];rfl,h2.below hwb⟩⟩
 generalize hres:leavesS l a=res;have HR:=zq hres;clear hres
 go_enter Tryz.func20,Tryz.ntmps20
 go_wp2_with fail
 refine (areas_c A (some ⟨w.heap.size,0,none⟩) c 1 l [a] _ (h.below hwb) hz hsl zd).mono ?_
 rintro e w1 ⟨hb1,⟨hf,rfl⟩ | ⟨hr,hc,r1,r2,g1,g2,AL,cL,O,co,vs,rfl,hwr,hvl,hrd,hsets⟩⟩
 ·have hw1:Below w.heap.size w w1:=zAa hwb hb1
  have hrs:res=([],areasF l [a]):=by
   rw [←HR.o,leavesS];rw [areasF_1] at hf ⊢
   by_cases hq:chkR l=0
   ·rw [aD (by simp [hq])] at hf
    simp [hq,hf]
   ·simp [hq]
  have HS:=zq hrs;generalize areasF l [a]=f at *;have hfb:(f != 0)=true:=by simpa using hf
  have HB:=zq (hw1.alloc hw1.size (.cells #[zAk,.map none,zAk,.map none,zAk,zAk] 108));clear hrs hf hb1 hw1 hwb hsl h h2;unfold zw;go_wp2;go_ret2
  exact GivesS2.err HS.o HB.o
 ·have hw1:Below w.heap.size w w1:=zAa hwb hb1
  have g:=good_of hr;have hn:=g.len;have ha0:chkA l a=0:=hc 0 zd
  have hrs:res=(zCn l a,0):=by
   rw [←HR.o,leavesS];simp [hr,ha0]
  have HS:=zq hrs;clear hrs hb1 hwb hsl h h2 hc ha0 hr
  obtain ⟨v0,hv0⟩:∃ v0,vs=[v0]:=by
   match vs,hvl with
   | [v0],_=>exact ⟨v0,rfl⟩
  subst hv0;obtain ⟨a',ha',gi,ci,rfl,hgi⟩:=hsets 0 v0 rfl;have:a'=a:=by simpa using ha'.symm
  subst this;obtain ⟨bo,oo,rfl,hbo,hco⟩:=hrd.at_ zd;have hco0:w1.cell? ⟨bo,oo,none⟩=some (.slice (some ⟨gi,0,none⟩) (inL l a').length ci):=hco 0 zd;clear hco hsets hvl ha' hrd;unfold wv;go_wp2;have hgl:(zBW l (fun i=>!zAB l i) l.length).length=(zAm l).length:=by rw [gath_len l a',inL,cW]
  have hil:(zAm l).length≤200:=cU (leafTo_le l l.length) hn;rw [hgl];have HGL:=zq hgl;clear hgl;generalize hW:w1.alloc (.cells #[.slice A l.length c,.map (some r1),.slice AL (zAm l).length cL,.map (some r2),.slice (some ⟨g1,0,none⟩) l.length l.length,.slice (some ⟨g2,0,none⟩) l.length l.length] 108)=W;have hWb:Below w1.heap.size w1 W:=yh;have HLV:=zq (hwr.lv.below hWb);have hgW:gi<W.heap.size:=cY (zAf hgi) hWb.size;have HGI:=zq ((hWb.block _ (zAf hgi)).trans hgi);have hboW:bo<W.heap.size:=cY hbo hWb.size;have hcoW:=(hWb.cell hbo).trans hco0;have HWb:=zq (zAa hw1 hWb);clear hW hWb hwr hgi hbo hco0 hw1;obtain ⟨s6,hs6⟩:∃ s6,s6=w1.heap.size:=⟨_,rfl⟩;rw [←hs6];clear hs6;clear w1;have hinl:(inL l a').length=(zAm l).length:=by rw [inL,cW]
  rw [hinl] at hcoW;have HIN:=zq hinl;clear hinl
  go_loopg [9,26] (zAm l).length (LvRel W l a')
  case atStart=>exact ⟨0,za,rfl,zAE.nil _ _ _ _ _,aN _ _⟩
  case round =>
   obtain ⟨k,hk,rfl,hown,hbel⟩:=hrel;have HK:=zq hk;have hk1:k≤(zAm l).length:=za;clear hk
   by_cases hlt:k<(zAm l).length
   ·have hltG:k<(zBW l (fun i=>!zAB l i) l.length).length:=by rw [HGL.o];exact hlt
    obtain ⟨b,o,rfl,hb,hc⟩:=HLV.o.at_ za;have hyl:=leafIdx_lt hlt
    have hc0:wr.cell? ⟨b,o+k,none⟩=some (.string (nmAt l (zAm l)[k])):=by
     rw [hbel.cell hb,hc k hltG,gath_get l hltG hlt]
    have hbr:b<wr.heap.size:=cY hb hbel.size;have hcor:=(hbel.cell hboW).trans hcoW;have hbor:bo<wr.heap.size:=cY hboW hbel.size;have hgr:gi<wr.heap.size:=cY hgW hbel.size
    have hcs:wr.cell? ⟨gi,k,none⟩=some (.bool (lies l a' (zAm l)[k])):=by
     rw [hbel.cell hgW,aL _ gi k _ _ _ HGI.o,zCR _ _ (by rw [HIN.o];exact hlt)]
     simp [inL,hlt]
    have hle:=lvTo_le l a' k;have hwr:W.heap.size≤wr.heap.size:=hbel.size;have HSU:=zq (lvTo_succ (a:=a') hlt);clear hc;generalize hx:nmAt l (zAm l)[k]=nm at *
    cases hq:lies l a' (zAm l)[k] with
    | false =>
     rw [hq] at hcs;have HQ:=zq hq;have HO:=zq hown;have HB:=zq hbel;clear hq hown hbel hx;go_wp2
     go_roundg (gk - 1)
     case measure=>have:=HK.o;omega
     case rel=>exact ⟨k+1,zh,zi,by rw [HSU.o,HQ.o];simpa using HO.o,HB.o⟩
    | true =>
     rw [hq] at hcs;have HQ:=zq hq;clear hq hx
     go_wp2_with (at_builtin;refine zBX _ _ _ elStr rfl rfl W.heap.size _ (lvTo l a' k) rfl (hown.alloc _) wr.heap.size 1 nm rfl (bZ _ _) rfl zx zm za ze ?_;intro v1 w2 hown2 hg2 hb2)
     have HO:=zq hown2;have HB:=zq ((hbel.alloc hwr _).trans hb2);clear hown hbel hown2 hg2 hb2;go_wp2
     go_roundg (gk - 1)
     case measure=>have:=HK.o;omega
     case rel=>exact ⟨k+1,zh,zi,by rw [HSU.o,HQ.o];simpa using HO.o,HB.o⟩
   ·have hke:k=(zAm l).length:=by omega
    have e:lvTo l a' k=zCn l a':=by rw [hke,lvTo,bO];rfl
    rw [e] at hown;obtain ⟨A',c',rfl,hrd⟩:=hown.rd1;have HB:=zq (zAa HWb.o hbel);have HD:=zq hrd;clear e hown hrd hbel hke;go_wp2;go_ret2
    exact GivesS2.ok HS.o HD.o HB.o
def sa:BA:=⟨#[97]⟩
theorem leaves_awake:leavesS [⟨sa,emp⟩] [⟨sa,false⟩]=([sa],0):=by decide +kernel
theorem awake_c (w:World):Calls Tryz.prog 10 #[] w (zAe (.bool true) w):=by
 have hb1:Below w.heap.size w (w.alloc (.cells #[.string ⟨#[97]⟩,.string ⟨#[]⟩] 72)):=(aN _ _).alloc (aC _) _;have hb2:Below w.heap.size w ((w.alloc (.cells #[.string ⟨#[97]⟩,.string ⟨#[]⟩] 72)).alloc (.cells #[.string ⟨#[97]⟩,.bool false] 74)):=hb1.alloc hb1.size _
 have hr:Rgs ((w.alloc (.cells #[.string ⟨#[97]⟩,.string ⟨#[]⟩] 72)).alloc (.cells #[.string ⟨#[97]⟩,.bool false] 74)) (some ⟨w.heap.size,0,none⟩) [⟨sa,emp⟩]:=fun _ =>
  ⟨w.heap.size,0,rfl,fun i hi=>by
   have:i=0:=by simp at hi;omega
   subst this
   constructor
   ·rw [aL _ w.heap.size _ _ _ _ (zAW (bZ _ _))];rfl
   ·rw [aL _ w.heap.size _ _ _ _ (zAW (bZ _ _))];rfl⟩
 have ha:Ars ((w.alloc (.cells #[.string ⟨#[97]⟩,.string ⟨#[]⟩] 72)).alloc (.cells #[.string ⟨#[97]⟩,.bool false] 74)) (some ⟨w.heap.size+1,0,none⟩) [⟨sa,false⟩]:=fun _ =>
  ⟨w.heap.size+1,0,rfl,fun i hi=>by
   have:i=0:=by simp at hi;omega
   subst this;have hn:=bZ (w.alloc (.cells #[.string ⟨#[97]⟩,.string ⟨#[]⟩] 72)) (.cells #[.string ⟨#[97]⟩,.bool false] 74);rw [show (w.alloc (.cells #[.string ⟨#[97]⟩,.string ⟨#[]⟩] 72)).heap.size=w.heap.size+1 by simp] at hn
   constructor
   ·rw [aL _ (w.heap.size+1) _ _ _ _ hn];rfl
   ·rw [aL _ (w.heap.size+1) _ _ _ _ hn];rfl⟩
 have hl:=Leaves_c (some ⟨w.heap.size,0,none⟩) (some ⟨w.heap.size+1,0,none⟩) 1 1 [⟨sa,emp⟩] [⟨sa,false⟩] _ hr ha (fun i hi=>by
  have:i=0:=by simp at hi;omega
  subst this
  show (sa.size:Nat)≤9223372036854775807
  decide)
 rw [leaves_awake] at hl
 go_enter Tryz.func10,Tryz.ntmps10
 go_wp2_with fail
 refine hl.mono ?_
 rintro e w1 ⟨A1,c1,rfl,hx,hb⟩;have HB:=zq (hb2.trans (hb.mono hb2.size));obtain ⟨b,o,rfl,hbl,hc⟩:=hx.at_ zd;have hc0:w1.cell? ⟨b,o,none⟩=some (.string ⟨#[97]⟩):=hc 0 zd;clear hl hr ha hb1 hb2 hb hx hc;go_wp2;go_ret
 exact zAe.mk rfl HB.o
theorem shares_len (rs:List Rg) (us:List BA) (ds:List De) (th pl use:BA) (day:Int):(zBe rs us ds th pl use day).1.length≤1000000:=by
 by_cases hc:zBt rs us ds=0
 case neg=>rw [srF_chk hc];exact aZ _
 cases hn:zAT th with
 | false=>rw [srF_nm hc hn];exact aZ _
 | true =>
  by_cases hs:zBz rs us pl use day=0
  case neg=>rw [srF_sp hc hn hs];exact aZ _
  rw [srF_at hc hn hs]
  split
  ·exact aZ _
  ·show (pairs (holL _ _) _).length≤_
   unfold pairs;rw [cW];exact cU (dK _ _) (keys_len hc _ th use day ds.length (aC _))
theorem lawG_c (RA:Option Addr) (rc:Nat) (rs:List Rg) (UA:Option Addr) (uc:Nat) (us:List BA) (DA:Option Addr) (dc:Nat) (ds:List De) (th party pl use:BA) (day:Int) (w:World)
  (hr:Rgs w RA rs) (hu:Strs w UA us) (hd:Des w DA ds) (hz:∀ i (h:i<rs.length),(rs[i]).nm.size≤9223372036854775807) (hz2:∀ i (h:i<us.length),(us[i]).size≤9223372036854775807) (hdc:ds.length≤dc)
  (hth:th.size≤9223372036854775807) (hpa:party.size≤9223372036854775807) (hdm:day≤9223372036854775807) :
  Calls Tryz.prog 3 #[.agg (tiC RA rc rs UA uc us DA dc ds),.string th,.string party,.string pl,.string use,.int .i64 day] w (zAe (.bool true) w):=by
 have HX:Hid (Bx (w.alloc (.cells (tiC RA rc rs UA uc us DA dc ds) 26)) w.heap.size (tiC RA rc rs UA uc us DA dc ds) 26):=Bx.new _ _ _;have HB:Hid (Below w.heap.size w (w.alloc (.cells (tiC RA rc rs UA uc us DA dc ds) 26))):=(aN _ _).alloc (aC _) _;obtain ⟨W,hW⟩:∃ W,W=w.alloc (.cells (tiC RA rc rs UA uc us DA dc ds) 26):=⟨_,rfl⟩;rw [←hW] at HX HB;have HRw:=zq hr;have HUw:=zq hu;have HDw:=zq hd;clear hr hu hd
 go_enter Tryz.func3,Tryz.ntmps3
 go_upto_region 1 with fail
 rw [←hW];clear hW;have HC:=zq (Changes_c RA rc rs UA uc us DA dc ds th W (HRw.o.below HB.o) (HUw.o.below HB.o) (HDw.o.below HB.o) hz hz2 hdc hth)
 iterate 2 go_step
 refine eW _ _ zj w.heap.size 0 zj (tiC RA rc rs UA uc us DA dc ds).toList _ (zDh HX.o) Tryz.underlying26 rfl zb ?_
 go_wp2_with fail
 with_reducible refine HC.o.mono ?_
 rintro e w1 ⟨A,c,l,f,rfl,hir,hb1,hll,hcase⟩;have HB1:=zq (zAa HB.o hb1);have HX1:=zq (HX.o.below hb1);have HIR:=zq hir;have HCA:=zq hcase;clear hir hb1 hcase HC HX HB
 by_cases hf:f=0
 case neg =>
  have hl0:l.length=0:=by
   rcases HCA.o with ⟨_,_,rfl⟩ | ⟨_,_,_,rfl⟩ | ⟨_,_,h,_⟩
   ·rfl
   ·rfl
   ·exact absurd h hf
  have q1:(f != 0)=true:=by simpa using hf
  have q2:(f == 0)=false:=by simpa using hf
  rw [hl0];clear hf hl0 HCA HIR hll
  go_wp2_with fail
  with_reducible refine (awake_c _).mono ?_
  rintro e w4 ⟨rfl,hb4⟩;have HB4:=zq (zAa HB1.o hb4);clear hb4;go_wp2;go_ret
  exact zAe.mk rfl HB4.o
 subst hf
 obtain ⟨hck,hnm,htl⟩:zBt rs us ds=0∧zAT th=true∧∀ x,x∈l↔ToldP rs us ds th x:=by
  rcases HCA.o with ⟨h1,h2,_⟩ | ⟨_,_,h2,_⟩ | ⟨h1,h2,_,_,h3⟩
  ·exact absurd h2.symm h1
  ·cases h2
  ·exact ⟨h1,h2,h3⟩
 have HCK:=zq hck;have HNM:=zq hnm;have HTL:=zq htl;clear hck hnm htl HCA
 by_cases hd1:1≤day
 case neg =>
  have q1:decide (day<1)=true:=cM za;clear hd1
  go_wp2_with fail
  with_reducible refine (awake_c _).mono ?_
  rintro e w4 ⟨rfl,hb4⟩;have HB4:=zq (zAa HB1.o hb4);clear hb4;go_wp2;go_ret
  exact zAe.mk rfl HB4.o
 have q1:decide (day<1)=false:=cN za;have HCN:=zq (containsI_c A c l day w1 za HIR.o);have HMI:Hid (memI2 l day=true↔ToldP rs us ds th day):=memI2_true.trans (HTL.o day);generalize memI2 l day=bm at *;clear HIR HTL
 go_wp2_with fail
 with_reducible refine HCN.o.mono ?_
 rintro e w2 ⟨rfl,rfl⟩;clear HCN q1
 cases bm with
 | true =>
  clear HMI
  go_wp2_with fail
  with_reducible refine (awake_c _).mono ?_
  rintro e w4 ⟨rfl,hb4⟩;have HB4:=zq (zAa HB1.o hb4);clear hb4;go_wp2;go_ret
  exact zAe.mk rfl HB4.o
 | false =>
  have HNT:Hid (¬ ToldP rs us ds th day):=fun h=>by have:=HMI.o.2 h;cases this
  clear HMI;have hwr:IntKind.i64.wrap (day - 1)=day - 1:=IntWalk.i64_in _ za;have HD1:=zq hd1;have hrl1:=shares_len rs us ds th pl use (day - 1);have hrl2:=shares_len rs us ds th pl use day;have HER:=zq (told_err (use:=use) (pl:=pl) HCK.o HNM.o hd1);have HLW:=zq (told_law (use:=use) (pl:=pl) (party:=party) HCK.o HNM.o HNT.o hd1);have HS1:=zq (Shares_c RA rc rs UA uc us DA dc ds th pl use (day - 1) w1 (HRw.o.below HB1.o) (HUw.o.below HB1.o) (HDw.o.below HB1.o) hz hz2 hdc hth);have HS2:=zq (fun u (hu:Below w.heap.size w u)=>Shares_c RA rc rs UA uc us DA dc ds th pl use day u (HRw.o.below hu) (HUw.o.below hu) (HDw.o.below hu) hz hz2 hdc hth)
  have HM1:=zq (fun u (hu:Below w.heap.size w u)=>May_c RA rc rs UA uc us DA dc ds th party pl use (day - 1) u (HRw.o.below hu) (HUw.o.below hu) (HDw.o.below hu) hz hz2 hdc hth hpa)
  have HM2:=zq (fun u (hu:Below w.heap.size w u)=>May_c RA rc rs UA uc us DA dc ds th party pl use day u (HRw.o.below hu) (HUw.o.below hu) (HDw.o.below hu) hz hz2 hdc hth hpa)
  obtain ⟨r1,hr1⟩:∃ r,r=zBe rs us ds th pl use (day - 1):=⟨_,rfl⟩;obtain ⟨r2,hr2⟩:∃ r,r=zBe rs us ds th pl use day:=⟨_,rfl⟩;obtain ⟨m1,hm1⟩:∃ r,r=mayA rs us ds th party pl use (day - 1):=⟨_,rfl⟩;obtain ⟨m2,hm2⟩:∃ r,r=mayA rs us ds th party pl use day:=⟨_,rfl⟩;rw [←hr1,←hr2] at HER;rw [←hr1,←hr2,←hm1,←hm2] at HLW;rw [←hr1] at HS1 hrl1;rw [←hr2] at HS2 hrl2;rw [←hm1] at HM1;rw [←hm2] at HM2;clear hr1 hr2 hm1 hm2 hd1;obtain ⟨a1,f1⟩:=r1;obtain ⟨a2,f2⟩:=r2;obtain ⟨b1,f3⟩:=m1;obtain ⟨b2,f4⟩:=m2;have hrl1':(a1.map shO).length≤1000000:=by rw [cW];exact hrl1
  have hrl2':(a2.map shO).length≤1000000:=by rw [cW];exact hrl2
  clear hrl1 hrl2;go_upto_region 4 with fail
  iterate 2 go_step
  refine eW _ _ zj w.heap.size 0 zj (tiC RA rc rs UA uc us DA dc ds).toList _ (zDh HX1.o) Tryz.underlying26 rfl zb ?_
  go_wp2_with fail
  with_reducible refine HS1.o.mono ?_
  rintro e w3 ⟨A1,c1,rfl,hs1,hb3⟩;have HB3:=zq (zAa HB1.o hb3);have HX3:=zq (HX1.o.below hb3);have HSS1:=zq hs1;clear hb3 hs1 HX1 HB1 HS1;go_upto_region 5 with fail
  iterate 2 go_step
  refine eW _ _ zj w.heap.size 0 zj (tiC RA rc rs UA uc us DA dc ds).toList _ (zDh HX3.o) Tryz.underlying26 rfl zb ?_
  go_wp2_with fail
  with_reducible refine (HS2.o _ HB3.o).mono ?_
  rintro e w4 ⟨A2,c2,rfl,hs2,hb4⟩;have HB4:=zq (zAa HB3.o hb4);have HX4:=zq (HX3.o.below hb4);have HSS3:=zq (HSS1.o.below hb4);have HSS2:=zq hs2;clear hb4 hs2 HX3 HB3 HS2 HSS1;have HDD:=zq (eU (p:=day=200001))
  by_cases hff:f1=0∧f2=0
  case neg =>
   have her:=HER.o (by
    by_cases h1:f1=0
    ·exact .inr fun h2=>hff ⟨h1,h2⟩
    ·exact .inl h1)
   have HHE:=zq her;clear her HER HLW HM1 HM2 HSS2 HSS3 HX4 hrl1' hrl2' hwr HDD
   by_cases h1:f1=0
   ·subst h1
    have h2:f2≠0:=fun h=>hff ⟨rfl,h⟩
    have q2:(f2 != 0)=true:=by simpa using h2
    have q3:((0:Int) == f2)=false:=by simpa using fun h:0=f2=>h2 h.symm
    clear hff h2
    by_cases h3:f2=2
    ·subst h3
     clear q2 q3;go_wp2;go_ret
     exact zAe.mk rfl HB4.o
    ·have q4:(f2 == 2)=false:=by simpa using h3
     have q5:(day == 200001)=true:=by
      rcases HHE.o with h | h | h | h
      ·rw [←h] at q2;simp at q2
      ·cases h
      ·exact absurd h h3
      ·simpa using h
     clear h3 HHE;go_wp2;go_ret
     exact zAe.mk rfl HB4.o
   ·have q2:(f1 != 0)=true:=by simpa using h1
    clear hff h1
    by_cases h0:f1=f2
    ·have q3:(f1 == f2)=true:=by simpa using h0
     clear h0 HHE;go_wp2;go_ret
     exact zAe.mk rfl HB4.o
    have q3:(f1 == f2)=false:=by simpa using h0
    by_cases h3:f1=2
    ·have q4:(f1 == 2)=true:=by simpa using h3
     clear h0 h3 HHE;go_wp2;go_ret
     exact zAe.mk rfl HB4.o
    have q4:(f1 == 2)=false:=by simpa using h3
    by_cases h4:f2=2
    ·have q5:(f2 == 2)=true:=by simpa using h4
     clear h0 h3 h4 HHE;go_wp2;go_ret
     exact zAe.mk rfl HB4.o
    have q5:(f2 == 2)=false:=by simpa using h4
    have q6:(day == 200001)=true:=by
     rcases HHE.o with h | h | h | h
     ·exact absurd h h0
     ·exact absurd h h3
     ·exact absurd h h4
     ·simpa using h
    clear h0 h3 h4 HHE;go_wp2;go_ret
    exact zAe.mk rfl HB4.o
  obtain ⟨h1,h2⟩:=hff;subst h1;subst h2;obtain ⟨e1,e2⟩:=HLW.o rfl rfl
  injection e1 with e1 _
  injection e2 with e2 e3
  subst e1;subst e2;subst e3;clear HER HLW HDD hrl2';go_upto_region 8 with fail
  iterate 2 go_step
  refine eW _ _ zj w.heap.size 0 zj (tiC RA rc rs UA uc us DA dc ds).toList _ (zDh HX4.o) Tryz.underlying26 rfl zb ?_
  go_wp2_with fail
  with_reducible refine (HM1.o _ HB4.o).mono ?_
  rintro e w5 ⟨rfl,hb5⟩;have HB5:=zq (zAa HB4.o hb5);have HX5:=zq (HX4.o.below hb5);have HSS4:=zq (HSS3.o.below hb5);have HSS5:=zq (HSS2.o.below hb5);clear hb5 HX4 HB4 HM1 HSS3 HSS2 hwr;go_upto_region 9 with fail
  iterate 2 go_step
  refine eW _ _ zj w.heap.size 0 zj (tiC RA rc rs UA uc us DA dc ds).toList _ (zDh HX5.o) Tryz.underlying26 rfl zb ?_
  go_wp2_with fail
  with_reducible refine (HM2.o _ HB5.o).mono ?_
  rintro e w6 ⟨rfl,hb6⟩;have HB6:=zq (zAa HB5.o hb6);have HEQ:=zq (equalH_c A1 A2 c1 c2 (a1.map shO) (a1.map shO) w6 za za (HSS4.o.below hb6) (HSS5.o.below hb6));have hf:(f3 == f3)=true:=zd;have hbb:(b1 == b1)=true:=zd;clear hb6 HB5 HX5 HM2 HSS4 HSS5;simp only [cW] at HEQ;go_upto_region 10 with fail
  go_wp2_with fail
  with_reducible refine HEQ.o.mono ?_
  rintro e w7 ⟨r,rfl,hr,n,hw7⟩;have h1:r=true:=by simpa using hr
  subst h1;have HB7:Hid (Below w.heap.size w w7):=by show Below _ _ _;rw [hw7];exact zAc HB6.o n
  clear hr hw7 HEQ
  go_wp2_with fail
  with_reducible refine (awake_c _).mono ?_
  rintro e w8 ⟨rfl,hb8⟩;have HB8:=zq (zAa HB7.o hb8);clear hb8;go_wp2;go_ret
  exact zAe.mk rfl HB8.o
end Go.Proofs.YtieoifkdobcpiaaGreatDoor
